/- Joined texts: The reference's forms of a second, and the program's and the reference's Show. The conditions stand in each line. -/
import Derived.Test.YtcaekfebnhedpaaGreatDoorM24
import Derived.Deep.RegionHeld3
import Derived.Deep.Cut
import Derived.Deep.DeepCutAuto
set_option linter.unusedVariables false
set_option linter.unusedSimpArgs false
namespace Go.Proofs.YtcaekfebnhedpaaGreatDoor
open Go.RowKit

set_option maxRecDepth 100000
theorem row3 {w : World} {b : Nat} {v0 v1 v2 : Value} {t : TypeId} (h : w.heap[b]? = some (.cells #[v0, v1, v2] t (0, 0))) : w.cell? ⟨b, 0, none⟩ = some v0 ∧ w.cell? ⟨b, 1, none⟩ = some v1 ∧ w.cell? ⟨b, 2, none⟩ = some v2 ∧ w.frozen? ⟨b, 0, none⟩ = false ∧ w.frozen? ⟨b, 1, none⟩ = false ∧ w.frozen? ⟨b, 2, none⟩ = false := by
  refine ⟨?_, ?_, ?_, ?_, ?_, ?_⟩
  all_goals first | (rw [cell_of_row _ _ _ _ _ _ h]; rfl) | (simp only [World.frozen?, h]; rfl)
theorem row_keepB {w w' : World} {cs : Array Value} {t : TypeId} {b : Nat} (h : w.heap[b]? = some (.cells cs t (0, 0))) (hb : Below w.heap.size w w') : w'.heap[b]? = some (.cells cs t (0, 0)) := by
  rw [hb.block b (by exact (Array.getElem?_eq_some_iff.1 h).1)]; exact h
theorem row_set3 {w : World} {b : Nat} {v0 v1 v2 : Value} {t : TypeId} (h : w.heap[b]? = some (.cells #[v0, v1, v2] t (0, 0))) (v : Value) : (w.setCell ⟨b, 0, none⟩ v).heap[b]? = some (.cells #[v, v1, v2] t (0, 0)) ∧ (w.setCell ⟨b, 1, none⟩ v).heap[b]? = some (.cells #[v0, v, v2] t (0, 0)) ∧ (w.setCell ⟨b, 2, none⟩ v).heap[b]? = some (.cells #[v0, v1, v] t (0, 0)) := by
  refine ⟨?_, ?_, ?_⟩ <;> simp [World.setCell, Array.getElem?_modify, h]
def F3 (v : Int) : Value := .agg #[.string (bs (Dt.form0 v)), .string (bs (Dt.form1 v)), .string (bs (Dt.form2 v))]
set_option maxHeartbeats 16000000 in
theorem forms_any (v : Int) (w : World) (h0 : 0 ≤ v) (h1 : v ≤ 253402300799) : Calls Tryz.prog 95 #[.int .i64 v] w fun e w' => e = .returned (F3 v) ∧ Below w.heap.size w w' := by
  obtain ⟨n0, n1, r0, r1, -⟩ := Dt.day_bd (v := v) ⟨h0, h1⟩
  obtain ⟨⟨a1, a2, a3, a4, a5, a6⟩, -⟩ := Dt.civ n0 n1
  have hl := Cal.len_bd (Dt.cY (v / 86400)) (Dt.cM (v / 86400))
  have hC := civil_r (v / 86400)
  have htc : tcA (v / 86400) = (Dt.cY (v / 86400), Dt.cM (v / 86400), Dt.cD (v / 86400), 0) := by unfold tcA; rw [if_pos ⟨n0, n1⟩]; rfl
  rw [htc] at hC
  dsimp only at hC
  have HF0 : Hid (Dt.form0 v = Dt.f0 (Dt.wd (v / 86400)) (Dt.cY (v / 86400)) (Dt.cM (v / 86400)) (Dt.cD (v / 86400)) (v % 86400)) := Lib.hid rfl
  have HF1 : Hid (Dt.form1 v = if Dt.cY (v / 86400) < 2070 then Dt.f1 (Dt.wd (v / 86400)) (Dt.cY (v / 86400)) (Dt.cM (v / 86400)) (Dt.cD (v / 86400)) (v % 86400) else []) := Lib.hid rfl
  have HF2 : Hid (Dt.form2 v = Dt.f2 (Dt.wd (v / 86400)) (Dt.cY (v / 86400)) (Dt.cM (v / 86400)) (Dt.cD (v / 86400)) (v % 86400)) := Lib.hid rfl
  have hwk := wk_len (Dt.wd (v / 86400)) (Dt.wd_lt _)
  unfold F3
  generalize Dt.form0 v = F0 at *
  generalize Dt.form1 v = F1 at *
  generalize Dt.form2 v = F2 at *
  generalize Dt.cY (v / 86400) = Y at *
  generalize Dt.cM (v / 86400) = M at *
  generalize Dt.cD (v / 86400) = D at *
  have hW := fun W => week_r (v / 86400) W n0 (by omega)
  generalize Dt.wd (v / 86400) = I at *
  generalize hd : v / 86400 = dy at *
  generalize hr : v % 86400 = rs at *
  have HDY := Lib.hid hd
  have HRS := Lib.hid hr
  have HC := Lib.hid hC
  have HW := Lib.hid hW
  clear hd hr htc hC hW
  have hal := alloc_below w (.cells #[.string ⟨#[]⟩, .string ⟨#[]⟩, .string ⟨#[]⟩] 120)
  have hro := heap_alloc_new w (.cells #[.string ⟨#[]⟩, .string ⟨#[]⟩, .string ⟨#[]⟩] 120)
  go_enter Tryz.func95, Tryz.ntmps95
  go_upto_region 1 with fail
  generalize hw1 : w.alloc (.cells #[.string ⟨#[]⟩, .string ⟨#[]⟩, .string ⟨#[]⟩] 120) = w1 at *
  have hz1 : w1.heap.size = w.heap.size + 1 := by rw [← hw1]; simp
  clear hw1
  go_upto_region 2 with fail
  rw [HDY.out]
  go_wp2_with fail
  refine (HC.out _).mono ?_
  rintro e w2 ⟨rfl, hb2⟩
  have hr2 := row_keepB hro hb2
  have hbA := bnext hal hb2 hal.size
  clear hro hal hb2 HC
  go_upto_region 4 with fail
  rw [HRS.out]
  go_wp2_with fail
  refine (two2_any _ _ (by omega) (by omega)).mono ?_
  rintro e w3 ⟨rfl, hb3⟩
  replace hr2 := row_keepB hr2 hb3
  replace hbA := bnext hbA hb3 hbA.size
  clear hb3
  go_wp2_with fail
  refine (two2_any _ _ (by omega) (by omega)).mono ?_
  rintro e w4 ⟨rfl, hb4⟩
  replace hr2 := row_keepB hr2 hb4
  replace hbA := bnext hbA hb4 hbA.size
  clear hb4
  go_wp2_with fail
  refine (two2_any _ _ (by omega) (by omega)).mono ?_
  rintro e w5 ⟨rfl, hb5⟩
  replace hr2 := row_keepB hr2 hb5
  replace hbA := bnext hbA hb5 hbA.size
  clear hb5
  have hal := alloc_below w5 (.cells #[.string ⟨#[]⟩, .string ⟨#[]⟩, .string ⟨#[]⟩] 120)
  have hro := heap_alloc_new w5 (.cells #[.string ⟨#[]⟩, .string ⟨#[]⟩, .string ⟨#[]⟩] 120)
  have hr6 := row_keepB hr2 hal
  have hbB := bnext hbA hal hbA.size
  have hzg : w.heap.size < w5.heap.size := by have := hr2; have h9 := (Array.getElem?_eq_some_iff.1 hr2).1; exact h9
  clear hal hr2 hbA
  go_upto_region 6 with fail
  generalize w5.alloc (.cells #[.string ⟨#[]⟩, .string ⟨#[]⟩, .string ⟨#[]⟩] 120) = w6 at *
  have hcl : bs (Dt.pad2 (rs / 3600)) ++ { data := #[58] } ++ bs (Dt.pad2 (rs / 60 % 60)) ++ { data := #[58] } ++ bs (Dt.pad2 (rs % 60)) = bs (Dt.hms rs) := by
    apply ByteArray.ext
    simp [Dt.hms, bs]
  rw [hcl]
  clear hcl
  have H2 := Lib.hid fun W => two2_any D W (by omega) (by omega)
  have H4 := Lib.hid fun W => two4_any Y W (by omega) (by omega)
  have HY2 := Lib.hid fun W => two2_any (Y % 100) W (by omega) (by omega)
  have HMO := Lib.hid fun W => month_r M W a3 a4
  have l1 : (Dt.hms rs).length = 8 := rfl
  have l2 : (Dt.pad2 D).length = 2 := rfl
  have l3 : (Dt.pad4 Y).length = 4 := rfl
  have l4 : (Dt.moN M.toNat).length = 3 := Dt.moN_len _
  have l5 : (Dt.pad2 (Y % 100)).length = 2 := rfl
  have HF0' : Hid (F0 = Dt.wk3 I ++ [44, 32] ++ Dt.pad2 D ++ [32] ++ Dt.moN M.toNat ++ [32] ++ Dt.pad4 Y ++ [32] ++ Dt.hms rs ++ [32, 71, 77, 84]) := HF0
  have HF1' : Hid (F1 = if Y < 2070 then Dt.wkN I ++ [44, 32] ++ Dt.pad2 D ++ [45] ++ Dt.moN M.toNat ++ [45] ++ Dt.pad2 (Y % 100) ++ [32] ++ Dt.hms rs ++ [32, 71, 77, 84] else []) := HF1
  have HF2' : Hid (F2 = Dt.wk3 I ++ [32] ++ Dt.moN M.toNat ++ [32] ++ Dt.dd2 D ++ [32] ++ Dt.hms rs ++ [32] ++ Dt.pad4 Y) := HF2
  have HD2 : Hid (Dt.dd2 D = if D < 10 then [32, Dt.dgt D] else Dt.pad2 D) := Lib.hid rfl
  have HSD : Hid (∀ W, Calls Tryz.prog 22 #[.int .i64 D] W fun e w' => e = .returned (.string (bs (Lib.decDigits D.toNat))) ∧ Below W.heap.size W w') := Lib.hid fun W => by have := show_pos D.toNat W (by omega); rwa [show ((D.toNat : Nat) : Int) = D by omega] at this
  have HDD : Hid ((D < 10 → Lib.decDigits D.toNat = [Dt.dgt D]) ∧ (¬ D < 10 → Lib.decDigits D.toNat = Dt.pad2 D)) := Lib.hid ⟨fun h => by
      rw [Lib.decDigits_one (by omega)]; unfold Dt.dgt; congr 1; congr 1; omega, fun h => by
      have := pad2_big (k := D.toNat) (by omega) (by omega); rw [this]; congr 1; omega⟩
  have HDN : Hid (((D.toNat : Nat) : Int) = D) := Lib.hid (by omega)
  clear HF0 HF1 HF2
  generalize Dt.hms rs = CK at *
  generalize Dt.pad2 D = P2 at *
  generalize Dt.pad4 Y = P4 at *
  generalize Dt.moN M.toNat = MO at *
  generalize Dt.pad2 (Y % 100) = PY at *
  have HW3 : Hid (Dt.wk3 I = (Dt.wkN I).take 3) := Lib.hid rfl
  generalize Dt.wk3 I = W3 at *
  generalize Dt.wkN I = WK at *
  have HB6 := Lib.hid hbB
  have HQ1 := Lib.hid hro
  have HQ2 := Lib.hid hr6
  generalize hg5 : w5.heap.size = g5 at *
  clear hbB hro hr6 hg5
  go_cut [9] (fun v wc => v = .string (bs CK) ∧ wc.heap[g5]? = some (.cells #[.string (bs F0), .string ⟨#[]⟩, .string ⟨#[]⟩] 120 (0, 0)) ∧ wc.heap[w.heap.size]? = some (.cells #[.string ⟨#[]⟩, .string ⟨#[]⟩, .string ⟨#[]⟩] 120 (0, 0)) ∧ Below w.heap.size w wc)
  case first =>
    have hB := HB6.out.drew
    have hq1 : w6.drew.heap[g5]? = some (.cells #[.string ⟨#[]⟩, .string ⟨#[]⟩, .string ⟨#[]⟩] 120 (0, 0)) := HQ1.out
    have hq2 : w6.drew.heap[w.heap.size]? = some (.cells #[.string ⟨#[]⟩, .string ⟨#[]⟩, .string ⟨#[]⟩] 120 (0, 0)) := HQ2.out
    clear HF1' HF2' HD2 HSD HDD HY2
    have hl3 : (3 : Int) ≤ (WK.length : Int) := by omega
    refine wp_region_detN (n := 21) (S := fun L W => Below w.heap.size w W ∧ W.heap[g5]? = some (.cells (if L.getD 20 false then #[.string (bs F0), .string ⟨#[]⟩, .string ⟨#[]⟩] else #[.string ⟨#[]⟩, .string ⟨#[]⟩, .string ⟨#[]⟩]) 120 (0, 0)) ∧ W.heap[w.heap.size]? = some (.cells #[.string ⟨#[]⟩, .string ⟨#[]⟩, .string ⟨#[]⟩] 120 (0, 0))) (by kernel_rfl) rfl ⟨hB, hq1, hq2⟩ ?_
    refine' DetS.takeL (i := 0) (v := _) rfl (by kernel_rfl) (by kernel_rfl) (by kernel_rfl) (YS.pure rfl ?sd6_0 ?rd6_0) ?nd6_0
    case rd6_0 => intro L W hS; go_simp; first | rfl | (rw [if_neg (by omega)] <;> rfl) | (rw [if_neg (by simp; omega)] <;> rfl) | (rw [if_neg (by simp)] <;> rfl)
    case sd6_0 => exact fun L W _ h => by simpa only [getD_set_ne false (show 0 ≠ 20 by decide)] using h
    simp only [Act.put, List.setIfInBounds_toArray, List.set_cons_zero, List.set_cons_succ]
    refine' DetS.takeL (i := 1) (v := _) rfl (by kernel_rfl) (by kernel_rfl) (by kernel_rfl) (YS.call (f := _) (args := _) rfl ?rd6_1 ?cd6_1) ?nd6_1
    case rd6_1 => intro W; go_simp; constructor <;> rfl
    case cd6_1 =>
      intro L W hL hS
      refine (HW.out W).mono ?_
      rintro e w9 ⟨rfl, hb9⟩
      exact ⟨by rfl, bnext hS.1 hb9 hS.1.size, by rw [row_keepB hS.2.1 hb9, getD_set_ne false (show 1 ≠ 20 by decide)], row_keepB hS.2.2 hb9⟩
    simp only [Act.put, List.setIfInBounds_toArray, List.set_cons_zero, List.set_cons_succ]
    refine' DetS.takeL (i := 2) (v := _) rfl (by kernel_rfl) (by kernel_rfl) (by kernel_rfl) (YS.pure rfl ?sd6_2 ?rd6_2) ?nd6_2
    case rd6_2 => intro L W hS; go_simp; first | rfl | (rw [if_neg (by omega)] <;> rfl) | (rw [if_neg (by simp; omega)] <;> rfl) | (rw [if_neg (by simp)] <;> rfl)
    case sd6_2 => exact fun L W _ h => by simpa only [getD_set_ne false (show 2 ≠ 20 by decide)] using h
    simp only [Act.put, List.setIfInBounds_toArray, List.set_cons_zero, List.set_cons_succ]
    refine' DetS.takeL (i := 3) (v := _) rfl (by kernel_rfl) (by kernel_rfl) (by kernel_rfl) (YS.pure rfl ?sd6_3 ?rd6_3) ?nd6_3
    case rd6_3 => intro L W hS; go_simp; first | rfl | (rw [if_neg (by omega)] <;> rfl) | (rw [if_neg (by simp; omega)] <;> rfl) | (rw [if_neg (by simp)] <;> rfl)
    case sd6_3 => exact fun L W _ h => by simpa only [getD_set_ne false (show 3 ≠ 20 by decide)] using h
    simp only [Act.put, List.setIfInBounds_toArray, List.set_cons_zero, List.set_cons_succ]
    refine' DetS.takeL (i := 4) (v := _) rfl (by kernel_rfl) (by kernel_rfl) (by kernel_rfl) (YS.pure rfl ?sd6_4 ?rd6_4) ?nd6_4
    case rd6_4 => intro L W hS; go_simp; first | rfl | (rw [if_neg (by omega)] <;> rfl) | (rw [if_neg (by simp; omega)] <;> rfl) | (rw [if_neg (by simp)] <;> rfl)
    case sd6_4 => exact fun L W _ h => by simpa only [getD_set_ne false (show 4 ≠ 20 by decide)] using h
    simp only [Act.put, List.setIfInBounds_toArray, List.set_cons_zero, List.set_cons_succ]
    refine' DetS.takeL (i := 5) (v := _) rfl (by kernel_rfl) (by kernel_rfl) (by kernel_rfl) (YS.call (f := _) (args := _) rfl ?rd6_5 ?cd6_5) ?nd6_5
    case rd6_5 => intro W; go_simp; constructor <;> rfl
    case cd6_5 =>
      intro L W hL hS
      refine (H2.out W).mono ?_
      rintro e w9 ⟨rfl, hb9⟩
      exact ⟨by rfl, bnext hS.1 hb9 hS.1.size, by rw [row_keepB hS.2.1 hb9, getD_set_ne false (show 5 ≠ 20 by decide)], row_keepB hS.2.2 hb9⟩
    simp only [Act.put, List.setIfInBounds_toArray, List.set_cons_zero, List.set_cons_succ]
    refine' DetS.takeL (i := 6) (v := _) rfl (by kernel_rfl) (by kernel_rfl) (by kernel_rfl) (YS.pure rfl ?sd6_6 ?rd6_6) ?nd6_6
    case rd6_6 => intro L W hS; go_simp; first | rfl | (rw [if_neg (by omega)] <;> rfl) | (rw [if_neg (by simp; omega)] <;> rfl) | (rw [if_neg (by simp)] <;> rfl)
    case sd6_6 => exact fun L W _ h => by simpa only [getD_set_ne false (show 6 ≠ 20 by decide)] using h
    simp only [Act.put, List.setIfInBounds_toArray, List.set_cons_zero, List.set_cons_succ]
    refine' DetS.takeL (i := 7) (v := _) rfl (by kernel_rfl) (by kernel_rfl) (by kernel_rfl) (YS.pure rfl ?sd6_7 ?rd6_7) ?nd6_7
    case rd6_7 => intro L W hS; go_simp; first | rfl | (rw [if_neg (by omega)] <;> rfl) | (rw [if_neg (by simp; omega)] <;> rfl) | (rw [if_neg (by simp)] <;> rfl)
    case sd6_7 => exact fun L W _ h => by simpa only [getD_set_ne false (show 7 ≠ 20 by decide)] using h
    simp only [Act.put, List.setIfInBounds_toArray, List.set_cons_zero, List.set_cons_succ]
    refine' DetS.takeL (i := 8) (v := _) rfl (by kernel_rfl) (by kernel_rfl) (by kernel_rfl) (YS.pure rfl ?sd6_8 ?rd6_8) ?nd6_8
    case rd6_8 => intro L W hS; go_simp; first | rfl | (rw [if_neg (by omega)] <;> rfl) | (rw [if_neg (by simp; omega)] <;> rfl) | (rw [if_neg (by simp)] <;> rfl)
    case sd6_8 => exact fun L W _ h => by simpa only [getD_set_ne false (show 8 ≠ 20 by decide)] using h
    simp only [Act.put, List.setIfInBounds_toArray, List.set_cons_zero, List.set_cons_succ]
    refine' DetS.takeL (i := 9) (v := _) rfl (by kernel_rfl) (by kernel_rfl) (by kernel_rfl) (YS.call (f := _) (args := _) rfl ?rd6_9 ?cd6_9) ?nd6_9
    case rd6_9 => intro W; go_simp; constructor <;> rfl
    case cd6_9 =>
      intro L W hL hS
      refine (HMO.out W).mono ?_
      rintro e w9 ⟨rfl, rfl⟩
      exact ⟨by rfl, by simpa only [getD_set_ne false (show 9 ≠ 20 by decide)] using hS⟩
    simp only [Act.put, List.setIfInBounds_toArray, List.set_cons_zero, List.set_cons_succ]
    refine' DetS.takeL (i := 10) (v := _) rfl (by kernel_rfl) (by kernel_rfl) (by kernel_rfl) (YS.pure rfl ?sd6_10 ?rd6_10) ?nd6_10
    case rd6_10 => intro L W hS; go_simp; first | rfl | (rw [if_neg (by omega)] <;> rfl) | (rw [if_neg (by simp; omega)] <;> rfl) | (rw [if_neg (by simp)] <;> rfl)
    case sd6_10 => exact fun L W _ h => by simpa only [getD_set_ne false (show 10 ≠ 20 by decide)] using h
    simp only [Act.put, List.setIfInBounds_toArray, List.set_cons_zero, List.set_cons_succ]
    refine' DetS.takeL (i := 11) (v := _) rfl (by kernel_rfl) (by kernel_rfl) (by kernel_rfl) (YS.pure rfl ?sd6_11 ?rd6_11) ?nd6_11
    case rd6_11 => intro L W hS; go_simp; first | rfl | (rw [if_neg (by omega)] <;> rfl) | (rw [if_neg (by simp; omega)] <;> rfl) | (rw [if_neg (by simp)] <;> rfl)
    case sd6_11 => exact fun L W _ h => by simpa only [getD_set_ne false (show 11 ≠ 20 by decide)] using h
    simp only [Act.put, List.setIfInBounds_toArray, List.set_cons_zero, List.set_cons_succ]
    refine' DetS.takeL (i := 12) (v := _) rfl (by kernel_rfl) (by kernel_rfl) (by kernel_rfl) (YS.pure rfl ?sd6_12 ?rd6_12) ?nd6_12
    case rd6_12 => intro L W hS; go_simp; first | rfl | (rw [if_neg (by omega)] <;> rfl) | (rw [if_neg (by simp; omega)] <;> rfl) | (rw [if_neg (by simp)] <;> rfl)
    case sd6_12 => exact fun L W _ h => by simpa only [getD_set_ne false (show 12 ≠ 20 by decide)] using h
    simp only [Act.put, List.setIfInBounds_toArray, List.set_cons_zero, List.set_cons_succ]
    refine' DetS.takeL (i := 13) (v := _) rfl (by kernel_rfl) (by kernel_rfl) (by kernel_rfl) (YS.call (f := _) (args := _) rfl ?rd6_13 ?cd6_13) ?nd6_13
    case rd6_13 => intro W; go_simp; constructor <;> rfl
    case cd6_13 =>
      intro L W hL hS
      refine (H4.out W).mono ?_
      rintro e w9 ⟨rfl, hb9⟩
      exact ⟨by rfl, bnext hS.1 hb9 hS.1.size, by rw [row_keepB hS.2.1 hb9, getD_set_ne false (show 13 ≠ 20 by decide)], row_keepB hS.2.2 hb9⟩
    simp only [Act.put, List.setIfInBounds_toArray, List.set_cons_zero, List.set_cons_succ]
    refine' DetS.takeL (i := 14) (v := _) rfl (by kernel_rfl) (by kernel_rfl) (by kernel_rfl) (YS.pure rfl ?sd6_14 ?rd6_14) ?nd6_14
    case rd6_14 => intro L W hS; go_simp; first | rfl | (rw [if_neg (by omega)] <;> rfl) | (rw [if_neg (by simp; omega)] <;> rfl) | (rw [if_neg (by simp)] <;> rfl)
    case sd6_14 => exact fun L W _ h => by simpa only [getD_set_ne false (show 14 ≠ 20 by decide)] using h
    simp only [Act.put, List.setIfInBounds_toArray, List.set_cons_zero, List.set_cons_succ]
    refine' DetS.takeL (i := 15) (v := _) rfl (by kernel_rfl) (by kernel_rfl) (by kernel_rfl) (YS.pure rfl ?sd6_15 ?rd6_15) ?nd6_15
    case rd6_15 => intro L W hS; go_simp; first | rfl | (rw [if_neg (by omega)] <;> rfl) | (rw [if_neg (by simp; omega)] <;> rfl) | (rw [if_neg (by simp)] <;> rfl)
    case sd6_15 => exact fun L W _ h => by simpa only [getD_set_ne false (show 15 ≠ 20 by decide)] using h
    simp only [Act.put, List.setIfInBounds_toArray, List.set_cons_zero, List.set_cons_succ]
    refine' DetS.takeL (i := 16) (v := _) rfl (by kernel_rfl) (by kernel_rfl) (by kernel_rfl) (YS.pure rfl ?sd6_16 ?rd6_16) ?nd6_16
    case rd6_16 => intro L W hS; go_simp; first | rfl | (rw [if_neg (by omega)] <;> rfl) | (rw [if_neg (by simp; omega)] <;> rfl) | (rw [if_neg (by simp)] <;> rfl)
    case sd6_16 => exact fun L W _ h => by simpa only [getD_set_ne false (show 16 ≠ 20 by decide)] using h
    simp only [Act.put, List.setIfInBounds_toArray, List.set_cons_zero, List.set_cons_succ]
    refine' DetS.takeL (i := 17) (v := _) rfl (by kernel_rfl) (by kernel_rfl) (by kernel_rfl) (YS.pure rfl ?sd6_17 ?rd6_17) ?nd6_17
    case rd6_17 => intro L W hS; go_simp; first | rfl | (rw [if_neg (by omega)] <;> rfl) | (rw [if_neg (by simp; omega)] <;> rfl) | (rw [if_neg (by simp)] <;> rfl)
    case sd6_17 => exact fun L W _ h => by simpa only [getD_set_ne false (show 17 ≠ 20 by decide)] using h
    simp only [Act.put, List.setIfInBounds_toArray, List.set_cons_zero, List.set_cons_succ]
    refine' DetS.takeL (i := 18) (v := _) rfl (by kernel_rfl) (by kernel_rfl) (by kernel_rfl) (YS.pure rfl ?sd6_18 ?rd6_18) ?nd6_18
    case rd6_18 => intro L W hS; go_simp; first | rfl | (rw [if_neg (by omega)] <;> rfl) | (rw [if_neg (by simp; omega)] <;> rfl) | (rw [if_neg (by simp)] <;> rfl)
    case sd6_18 => exact fun L W _ h => by simpa only [getD_set_ne false (show 18 ≠ 20 by decide)] using h
    simp only [Act.put, List.setIfInBounds_toArray, List.set_cons_zero, List.set_cons_succ]
    refine' DetS.takeL (i := 19) (v := _) rfl (by kernel_rfl) (by kernel_rfl) (by kernel_rfl) (YS.pure rfl ?sd6_19 ?rd6_19) ?nd6_19
    case rd6_19 => intro L W hS; go_simp; first | rfl | (rw [if_neg (by omega)] <;> rfl) | (rw [if_neg (by simp; omega)] <;> rfl) | (rw [if_neg (by simp)] <;> rfl)
    case sd6_19 => exact fun L W _ h => by simpa only [getD_set_ne false (show 19 ≠ 20 by decide)] using h
    simp only [Act.put, List.setIfInBounds_toArray, List.set_cons_zero, List.set_cons_succ]
    refine' DetS.takeL (i := 20) (v := undef) rfl (by kernel_rfl) (by kernel_rfl) (by kernel_rfl) (YS.store (f := _) rfl ?rd6_20) ?nd6_20
    case rd6_20 =>
      intro L W hL hS
      obtain ⟨hB, hq1, hq2⟩ := hS
      rw [getD_un hL] at hq1
      replace hq1 : W.heap[g5]? = some (.cells #[.string ⟨#[]⟩, .string ⟨#[]⟩, .string ⟨#[]⟩] 120 (0, 0)) := hq1
      have hcc := row3 hq1
      refine ⟨by go_simp; rfl, hB.setCell (p := ⟨g5, 0, none⟩) (Nat.le_of_lt hzg) _, ?_, by rw [Below.heap_setCell _ _ _ _ (by show w.heap.size ≠ g5; omega)]; exact hq2⟩
      rw [getD_set_self hL, if_pos rfl, (row_set3 hq1 _).1, HF0'.out, HW3.out]
      congr 3 <;> (congr 1; apply ByteArray.ext; simp [bs])
    simp only [Act.put, List.setIfInBounds_toArray, List.set_cons_zero, List.set_cons_succ]
    refine DetS.done (by kernel_rfl) (fun W hS => ?_) _
    obtain ⟨hB, hq1, hq2⟩ := hS
    replace hq1 : W.heap[g5]? = some (.cells #[.string (bs F0), .string ⟨#[]⟩, .string ⟨#[]⟩] 120 (0, 0)) := hq1
    go_wp2_with fail
    go_meet
    case rel => exact ⟨rfl, hq1, hq2, hB⟩
  case rest =>
    obtain ⟨rfl, hq1, hq2, hB⟩ := hcut
    clear HB6 HQ1 HQ2 HF0'
    go_upto_if 59 with fail
    go_cut [9] (fun v wc => v = .string (bs CK) ∧ wc.heap[g5]? = some (.cells #[.string (bs F0), .string (bs F1), .string ⟨#[]⟩] 120 (0, 0)) ∧ wc.heap[w.heap.size]? = some (.cells #[.string ⟨#[]⟩, .string ⟨#[]⟩, .string ⟨#[]⟩] 120 (0, 0)) ∧ Below w.heap.size w wc)
    case first =>
      by_cases hY : Y < 2070
      · rw [if_pos hY] at HF1'
        go_wp2_with fail
        refine (HW.out _).mono ?_
        rintro e w9 ⟨rfl, hb9⟩
        replace hq1 := row_keepB hq1 hb9
        replace hq2 := row_keepB hq2 hb9
        replace hB := bnext hB hb9 hB.size
        clear hb9
        go_wp2_with fail
        refine (H2.out _).mono ?_
        rintro e w10 ⟨rfl, hb9⟩
        replace hq1 := row_keepB hq1 hb9
        replace hq2 := row_keepB hq2 hb9
        replace hB := bnext hB hb9 hB.size
        clear hb9
        go_wp2_with fail
        refine (HMO.out _).mono ?_
        rintro e w11 ⟨rfl, rfl⟩
        go_wp2_with fail
        refine (HY2.out _).mono ?_
        rintro e w11 ⟨rfl, hb9⟩
        replace hq1 := row_keepB hq1 hb9
        replace hq2 := row_keepB hq2 hb9
        replace hB := bnext hB hb9 hB.size
        clear hb9
        have hcc := row3 hq1
        go_wp2_with fail
        go_meet
        case rel =>
          refine ⟨rfl, ?_, by rw [Below.heap_setCell _ _ _ _ (by show w.heap.size ≠ g5; omega)]; exact hq2, hB.setCell (p := ⟨g5, 1, none⟩) (Nat.le_of_lt hzg) _⟩
          rw [(row_set3 hq1 _).2.1, HF1'.out]
          congr 3 <;> (congr 1; apply ByteArray.ext; simp [bs])
      · rw [if_neg hY] at HF1'
        go_wp2_with fail
        go_meet
        case rel => exact ⟨rfl, by rw [HF1'.out]; exact hq1, hq2, hB⟩
    case rest =>
      clear hq1 hq2 hB HF1' HY2
      obtain ⟨rfl, hq1, hq2, hB⟩ := hcut
      go_wp2_with fail
      refine (HSD.out _).mono ?_
      rintro e w9 ⟨rfl, hb9⟩
      replace hq1 := row_keepB hq1 hb9
      replace hq2 := row_keepB hq2 hb9
      replace hB := bnext hB hb9 hB.size
      clear hb9
      go_upto_if 83 with fail
      go_cut [9, 11] (fun v u wc => v = .string (bs CK) ∧ u = .string (bs (Dt.dd2 D)) ∧ wc.heap[g5]? = some (.cells #[.string (bs F0), .string (bs F1), .string ⟨#[]⟩] 120 (0, 0)) ∧ wc.heap[w.heap.size]? = some (.cells #[.string ⟨#[]⟩, .string ⟨#[]⟩, .string ⟨#[]⟩] 120 (0, 0)) ∧ Below w.heap.size w wc)
      case first =>
        by_cases hD : D < 10
        · rw [if_pos hD] at HD2
          rw [(HDD.out).1 hD]
          go_wp2_with fail
          go_meet
          case rel => exact ⟨rfl, by rw [HD2.out]; first | rfl | (congr 1 <;> (apply ByteArray.ext; simp [bs])), hq1, hq2, hB⟩
        · rw [if_neg hD] at HD2
          rw [(HDD.out).2 (by omega)]
          go_wp2_with fail
          go_meet
          case rel => exact ⟨rfl, by rw [HD2.out], hq1, hq2, hB⟩
      case rest =>
        clear hq1 hq2 hB
        obtain ⟨rfl, rfl, hq1, hq2, hB⟩ := hcut
        go_upto_region 12 with fail
        have hl3 : (3 : Int) ≤ (WK.length : Int) := by omega
        have hl6 : (Dt.dd2 D).length = 2 := by unfold Dt.dd2; split <;> rfl
        generalize Dt.dd2 D = DD at *
        refine wp_region_detN (n := 19) (S := fun L W => Below w.heap.size w W ∧ W.heap[g5]? = some (.cells (if L.getD 18 false then #[.string (bs F0), .string (bs F1), .string (bs F2)] else #[.string (bs F0), .string (bs F1), .string ⟨#[]⟩]) 120 (0, 0)) ∧ W.heap[w.heap.size]? = some (.cells #[.string ⟨#[]⟩, .string ⟨#[]⟩, .string ⟨#[]⟩] 120 (0, 0))) (by kernel_rfl) rfl ⟨hB.drew, hq1, hq2⟩ ?_
        refine' DetS.takeL (i := 0) (v := _) rfl (by kernel_rfl) (by kernel_rfl) (by kernel_rfl) (YS.pure rfl ?sd12_0 ?rd12_0) ?nd12_0
        case rd12_0 => intro L W hS; go_simp; first | rfl | (rw [if_neg (by omega)] <;> rfl) | (rw [if_neg (by simp; omega)] <;> rfl) | (rw [if_neg (by simp)] <;> rfl)
        case sd12_0 => exact fun L W _ h => by simpa only [getD_set_ne false (show 0 ≠ 18 by decide)] using h
        simp only [Act.put, List.setIfInBounds_toArray, List.set_cons_zero, List.set_cons_succ]
        refine' DetS.takeL (i := 1) (v := _) rfl (by kernel_rfl) (by kernel_rfl) (by kernel_rfl) (YS.call (f := _) (args := _) rfl ?rd12_1 ?cd12_1) ?nd12_1
        case rd12_1 => intro W; go_simp; constructor <;> rfl
        case cd12_1 =>
          intro L W hL hS
          refine (HW.out W).mono ?_
          rintro e w9 ⟨rfl, hb9⟩
          exact ⟨by rfl, bnext hS.1 hb9 hS.1.size, by rw [row_keepB hS.2.1 hb9, getD_set_ne false (show 1 ≠ 18 by decide)], row_keepB hS.2.2 hb9⟩
        simp only [Act.put, List.setIfInBounds_toArray, List.set_cons_zero, List.set_cons_succ]
        refine' DetS.takeL (i := 2) (v := _) rfl (by kernel_rfl) (by kernel_rfl) (by kernel_rfl) (YS.pure rfl ?sd12_2 ?rd12_2) ?nd12_2
        case rd12_2 => intro L W hS; go_simp; first | rfl | (rw [if_neg (by omega)] <;> rfl) | (rw [if_neg (by simp; omega)] <;> rfl) | (rw [if_neg (by simp)] <;> rfl)
        case sd12_2 => exact fun L W _ h => by simpa only [getD_set_ne false (show 2 ≠ 18 by decide)] using h
        simp only [Act.put, List.setIfInBounds_toArray, List.set_cons_zero, List.set_cons_succ]
        refine' DetS.takeL (i := 3) (v := _) rfl (by kernel_rfl) (by kernel_rfl) (by kernel_rfl) (YS.pure rfl ?sd12_3 ?rd12_3) ?nd12_3
        case rd12_3 => intro L W hS; go_simp; first | rfl | (rw [if_neg (by omega)] <;> rfl) | (rw [if_neg (by simp; omega)] <;> rfl) | (rw [if_neg (by simp)] <;> rfl)
        case sd12_3 => exact fun L W _ h => by simpa only [getD_set_ne false (show 3 ≠ 18 by decide)] using h
        simp only [Act.put, List.setIfInBounds_toArray, List.set_cons_zero, List.set_cons_succ]
        refine' DetS.takeL (i := 4) (v := _) rfl (by kernel_rfl) (by kernel_rfl) (by kernel_rfl) (YS.pure rfl ?sd12_4 ?rd12_4) ?nd12_4
        case rd12_4 => intro L W hS; go_simp; first | rfl | (rw [if_neg (by omega)] <;> rfl) | (rw [if_neg (by simp; omega)] <;> rfl) | (rw [if_neg (by simp)] <;> rfl)
        case sd12_4 => exact fun L W _ h => by simpa only [getD_set_ne false (show 4 ≠ 18 by decide)] using h
        simp only [Act.put, List.setIfInBounds_toArray, List.set_cons_zero, List.set_cons_succ]
        refine' DetS.takeL (i := 5) (v := _) rfl (by kernel_rfl) (by kernel_rfl) (by kernel_rfl) (YS.call (f := _) (args := _) rfl ?rd12_5 ?cd12_5) ?nd12_5
        case rd12_5 => intro W; go_simp; constructor <;> rfl
        case cd12_5 =>
          intro L W hL hS
          refine (HMO.out W).mono ?_
          rintro e w9 ⟨rfl, rfl⟩
          exact ⟨by rfl, by simpa only [getD_set_ne false (show 5 ≠ 18 by decide)] using hS⟩
        simp only [Act.put, List.setIfInBounds_toArray, List.set_cons_zero, List.set_cons_succ]
        refine' DetS.takeL (i := 6) (v := _) rfl (by kernel_rfl) (by kernel_rfl) (by kernel_rfl) (YS.pure rfl ?sd12_6 ?rd12_6) ?nd12_6
        case rd12_6 => intro L W hS; go_simp; first | rfl | (rw [if_neg (by omega)] <;> rfl) | (rw [if_neg (by simp; omega)] <;> rfl) | (rw [if_neg (by simp)] <;> rfl)
        case sd12_6 => exact fun L W _ h => by simpa only [getD_set_ne false (show 6 ≠ 18 by decide)] using h
        simp only [Act.put, List.setIfInBounds_toArray, List.set_cons_zero, List.set_cons_succ]
        refine' DetS.takeL (i := 7) (v := _) rfl (by kernel_rfl) (by kernel_rfl) (by kernel_rfl) (YS.pure rfl ?sd12_7 ?rd12_7) ?nd12_7
        case rd12_7 => intro L W hS; go_simp; first | rfl | (rw [if_neg (by omega)] <;> rfl) | (rw [if_neg (by simp; omega)] <;> rfl) | (rw [if_neg (by simp)] <;> rfl)
        case sd12_7 => exact fun L W _ h => by simpa only [getD_set_ne false (show 7 ≠ 18 by decide)] using h
        simp only [Act.put, List.setIfInBounds_toArray, List.set_cons_zero, List.set_cons_succ]
        refine' DetS.takeL (i := 8) (v := _) rfl (by kernel_rfl) (by kernel_rfl) (by kernel_rfl) (YS.pure rfl ?sd12_8 ?rd12_8) ?nd12_8
        case rd12_8 => intro L W hS; go_simp; first | rfl | (rw [if_neg (by omega)] <;> rfl) | (rw [if_neg (by simp; omega)] <;> rfl) | (rw [if_neg (by simp)] <;> rfl)
        case sd12_8 => exact fun L W _ h => by simpa only [getD_set_ne false (show 8 ≠ 18 by decide)] using h
        simp only [Act.put, List.setIfInBounds_toArray, List.set_cons_zero, List.set_cons_succ]
        refine' DetS.takeL (i := 9) (v := _) rfl (by kernel_rfl) (by kernel_rfl) (by kernel_rfl) (YS.pure rfl ?sd12_9 ?rd12_9) ?nd12_9
        case rd12_9 => intro L W hS; go_simp; first | rfl | (rw [if_neg (by omega)] <;> rfl) | (rw [if_neg (by simp; omega)] <;> rfl) | (rw [if_neg (by simp)] <;> rfl)
        case sd12_9 => exact fun L W _ h => by simpa only [getD_set_ne false (show 9 ≠ 18 by decide)] using h
        simp only [Act.put, List.setIfInBounds_toArray, List.set_cons_zero, List.set_cons_succ]
        refine' DetS.takeL (i := 10) (v := _) rfl (by kernel_rfl) (by kernel_rfl) (by kernel_rfl) (YS.pure rfl ?sd12_10 ?rd12_10) ?nd12_10
        case rd12_10 => intro L W hS; go_simp; first | rfl | (rw [if_neg (by omega)] <;> rfl) | (rw [if_neg (by simp; omega)] <;> rfl) | (rw [if_neg (by simp)] <;> rfl)
        case sd12_10 => exact fun L W _ h => by simpa only [getD_set_ne false (show 10 ≠ 18 by decide)] using h
        simp only [Act.put, List.setIfInBounds_toArray, List.set_cons_zero, List.set_cons_succ]
        refine' DetS.takeL (i := 11) (v := _) rfl (by kernel_rfl) (by kernel_rfl) (by kernel_rfl) (YS.pure rfl ?sd12_11 ?rd12_11) ?nd12_11
        case rd12_11 => intro L W hS; go_simp; first | rfl | (rw [if_neg (by omega)] <;> rfl) | (rw [if_neg (by simp; omega)] <;> rfl) | (rw [if_neg (by simp)] <;> rfl)
        case sd12_11 => exact fun L W _ h => by simpa only [getD_set_ne false (show 11 ≠ 18 by decide)] using h
        simp only [Act.put, List.setIfInBounds_toArray, List.set_cons_zero, List.set_cons_succ]
        refine' DetS.takeL (i := 12) (v := _) rfl (by kernel_rfl) (by kernel_rfl) (by kernel_rfl) (YS.pure rfl ?sd12_12 ?rd12_12) ?nd12_12
        case rd12_12 => intro L W hS; go_simp; first | rfl | (rw [if_neg (by omega)] <;> rfl) | (rw [if_neg (by simp; omega)] <;> rfl) | (rw [if_neg (by simp)] <;> rfl)
        case sd12_12 => exact fun L W _ h => by simpa only [getD_set_ne false (show 12 ≠ 18 by decide)] using h
        simp only [Act.put, List.setIfInBounds_toArray, List.set_cons_zero, List.set_cons_succ]
        refine' DetS.takeL (i := 13) (v := _) rfl (by kernel_rfl) (by kernel_rfl) (by kernel_rfl) (YS.pure rfl ?sd12_13 ?rd12_13) ?nd12_13
        case rd12_13 => intro L W hS; go_simp; first | rfl | (rw [if_neg (by omega)] <;> rfl) | (rw [if_neg (by simp; omega)] <;> rfl) | (rw [if_neg (by simp)] <;> rfl)
        case sd12_13 => exact fun L W _ h => by simpa only [getD_set_ne false (show 13 ≠ 18 by decide)] using h
        simp only [Act.put, List.setIfInBounds_toArray, List.set_cons_zero, List.set_cons_succ]
        refine' DetS.takeL (i := 14) (v := _) rfl (by kernel_rfl) (by kernel_rfl) (by kernel_rfl) (YS.pure rfl ?sd12_14 ?rd12_14) ?nd12_14
        case rd12_14 => intro L W hS; go_simp; first | rfl | (rw [if_neg (by omega)] <;> rfl) | (rw [if_neg (by simp; omega)] <;> rfl) | (rw [if_neg (by simp)] <;> rfl)
        case sd12_14 => exact fun L W _ h => by simpa only [getD_set_ne false (show 14 ≠ 18 by decide)] using h
        simp only [Act.put, List.setIfInBounds_toArray, List.set_cons_zero, List.set_cons_succ]
        refine' DetS.takeL (i := 15) (v := _) rfl (by kernel_rfl) (by kernel_rfl) (by kernel_rfl) (YS.call (f := _) (args := _) rfl ?rd12_15 ?cd12_15) ?nd12_15
        case rd12_15 => intro W; go_simp; constructor <;> rfl
        case cd12_15 =>
          intro L W hL hS
          refine (H4.out W).mono ?_
          rintro e w9 ⟨rfl, hb9⟩
          exact ⟨by rfl, bnext hS.1 hb9 hS.1.size, by rw [row_keepB hS.2.1 hb9, getD_set_ne false (show 15 ≠ 18 by decide)], row_keepB hS.2.2 hb9⟩
        simp only [Act.put, List.setIfInBounds_toArray, List.set_cons_zero, List.set_cons_succ]
        refine' DetS.takeL (i := 16) (v := _) rfl (by kernel_rfl) (by kernel_rfl) (by kernel_rfl) (YS.pure rfl ?sd12_16 ?rd12_16) ?nd12_16
        case rd12_16 => intro L W hS; go_simp; first | rfl | (rw [if_neg (by omega)] <;> rfl) | (rw [if_neg (by simp; omega)] <;> rfl) | (rw [if_neg (by simp)] <;> rfl)
        case sd12_16 => exact fun L W _ h => by simpa only [getD_set_ne false (show 16 ≠ 18 by decide)] using h
        simp only [Act.put, List.setIfInBounds_toArray, List.set_cons_zero, List.set_cons_succ]
        refine' DetS.takeL (i := 17) (v := _) rfl (by kernel_rfl) (by kernel_rfl) (by kernel_rfl) (YS.pure rfl ?sd12_17 ?rd12_17) ?nd12_17
        case rd12_17 => intro L W hS; go_simp; first | rfl | (rw [if_neg (by omega)] <;> rfl) | (rw [if_neg (by simp; omega)] <;> rfl) | (rw [if_neg (by simp)] <;> rfl)
        case sd12_17 => exact fun L W _ h => by simpa only [getD_set_ne false (show 17 ≠ 18 by decide)] using h
        simp only [Act.put, List.setIfInBounds_toArray, List.set_cons_zero, List.set_cons_succ]
        refine' DetS.takeL (i := 18) (v := undef) rfl (by kernel_rfl) (by kernel_rfl) (by kernel_rfl) (YS.store (f := _) rfl ?rd12_18) ?nd12_18
        case rd12_18 =>
          intro L W hL hS
          obtain ⟨hB, hq1, hq2⟩ := hS
          rw [getD_un hL] at hq1
          replace hq1 : W.heap[g5]? = some (.cells #[.string (bs F0), .string (bs F1), .string ⟨#[]⟩] 120 (0, 0)) := hq1
          have hcc := row3 hq1
          refine ⟨by go_simp; rfl, hB.setCell (p := ⟨g5, 2, none⟩) (Nat.le_of_lt hzg) _, ?_, by rw [Below.heap_setCell _ _ _ _ (by show w.heap.size ≠ g5; omega)]; exact hq2⟩
          rw [getD_set_self hL, if_pos rfl, (row_set3 hq1 _).2.2, HF2'.out, HW3.out]
          congr 3 <;> (congr 1; apply ByteArray.ext; simp [bs])
        simp only [Act.put, List.setIfInBounds_toArray, List.set_cons_zero, List.set_cons_succ]
        refine DetS.done (by kernel_rfl) (fun W hS => ?_) _
        clear hq1 hq2 hB
        obtain ⟨hB, hq1, hq2⟩ := hS
        replace hq1 : W.heap[g5]? = some (.cells #[.string (bs F0), .string (bs F1), .string (bs F2)] 120 (0, 0)) := hq1
        have hc1 := row3 hq1
        have hc2 := row3 hq2
        go_wp2_with fail
        have r1 := (row_set3 hq2 (.string (bs F0))).1
        have r2 := (row_set3 r1 (.string (bs F1))).2.1
        have r3 := (row_set3 r2 (.string (bs F2))).2.2
        have hc3 := row3 r3
        obtain ⟨c0, c1, c2, -⟩ := hc3
        refine bodyPost_ret (v := .agg #[.string (bs F0), .string (bs F1), .string (bs F2)]) (by simp [results, Tryz.results95, go_sem, c0, c1, c2]; done) rfl ⟨rfl, ((hB.setCell (p := ⟨w.heap.size, 0, none⟩) (Nat.le_refl _) _).setCell (p := ⟨w.heap.size, 1, none⟩) (Nat.le_refl _) _).setCell (p := ⟨w.heap.size, 2, none⟩) (Nat.le_refl _) _⟩
end Go.Proofs.YtcaekfebnhedpaaGreatDoor
