/- Joined texts: Spans compared; numbers shown; the place of a span; bytes cloned; a field put. The conditions stand in each line. -/
import Derived.Test.YtcaekfebnhedpaaGreatDoorM12
import Derived.Test.YtcaekfebnhedpaaGreatDoorM13
import Derived.Test.YtcaekfebnhedpaaGreatDoorM19
import Derived.Test.YtcaekfebnhedpaaGreatDoorM20
import Derived.Test.YtcaekfebnhedpaaGreatDoorM24
import Derived.Test.YtcaekfebnhedpaaGreatDoorM26
import Derived.Test.YtcaekfebnhedpaaGreatDoorM27
import Derived.Test.YtcaekfebnhedpaaGreatDoorM28
import Derived.IntWalk
import Derived.Lib.AppendIntMem
import Derived.Lib.SmallJoins
import Derived.Lib.ItoaMem
import Derived.Lib.ItoaLen
import Derived.Deep.RegionHeld3
import Derived.Laws.IdiomCopy
import Derived.Laws.CopyOwn
set_option linter.unusedVariables false
set_option linter.unusedSimpArgs false
namespace Go.Proofs.YtcaekfebnhedpaaGreatDoor
open Go.RowKit

set_option maxRecDepth 100000
theorem spn_cells : (Tryz.prog.fieldsOf 43).toList.map (fun f => (f.name, f.type, f.offset)) = [("First", 3, 0), ("Last", 3, 1)] := by kernel_rfl
theorem neq_spn (x1 x2 y1 y2 : Int) (w : World) : (binOp .neq 43 (.agg #[.int .i64 x1, .int .i64 x2]) (.agg #[.int .i64 y1, .int .i64 y2])).run Tryz.prog w = .ok (.bool (!((x1 == y1) && (x2 == y2)))) w := by
  rw [run_neq_struct]
  have hs := run_equalIn_struct (P := Tryz.prog) w 9999 43 #[.int .i64 x1, .int .i64 x2] #[.int .i64 y1, .int .i64 y2] (by kernel_rfl) (by kernel_rfl)
  rw [hs]
  have hf := spn_cells
  match h : (Tryz.prog.fieldsOf 43).toList with
  | [] => rw [h] at hf; simp at hf
  | [_] => rw [h] at hf; simp at hf
  | [f, g] =>
    rw [h] at hf
    simp at hf
    obtain ⟨⟨f1, f2, f3⟩, g1, g2, g3⟩ := hf
    simp [Op.eqFields, f1, f2, f3, g1, g2, g3, go_sem, Tryz.underlying3]
    by_cases e1 : x1 = y1 <;> by_cases e2 : x2 = y2 <;> simp [e1, e2]
  | _ :: _ :: _ :: _ => rw [h] at hf; simp at hf
theorem eqg_spn (w : World) (x y : Operand) (xs ys : Array Value) : (eqGuard .neq 43 x y (.agg xs) (.agg ys)).run Tryz.prog w = .ok () w := run_eqGuard_agg w _ _ _ _ _ _ (by kernel_rfl)
set_option maxHeartbeats 400000 in
theorem sameSpans_any (A B : Option Addr) (n m c d : Nat) (l r : List Spn) (w : World) (hl : RdP w A n l) (hr : RdP w B m r) (hn : n ≤ 140737488355328) (hm : m ≤ 140737488355328) :
    Calls Tryz.prog 13 #[.slice A n c, .slice B m d] w fun e w' => e = .returned (.bool (l == r)) ∧ Below w.heap.size w w' := by
  by_cases hnm : n = m
  case neg =>
    have HF : Hid ((l == r) = false) := Lib.hid (by rw [beq_eq_false_iff_ne]; intro h; apply hnm; rw [← hl.1, ← hr.1, h])
    have hnm' : ((n : Int) != (m : Int)) = true := by simp; omega
    go_enter Tryz.func13, Tryz.ntmps13
    go_wp2
    go_ret
    exact ⟨ret_bool HF.out.symm, Below.refl _ _⟩
  subst hnm
  have HN : Hid (∀ k : Nat, ∀ x y : Spn, l[k]? = some x → r[k]? = some y → x ≠ y → (l == r) = false) := Lib.hid fun k x y h1 h2 hne => by
    rw [beq_eq_false_iff_ne]; intro h; subst h; rw [h1] at h2; exact hne (Option.some.inj h2)
  have HT : Hid (l.take n = r.take n → (l == r) = true) := Lib.hid fun h => by
    rw [List.take_of_length_le (by rw [hl.1]; exact Nat.le_refl _), List.take_of_length_le (by rw [hr.1]; exact Nat.le_refl _)] at h; simpa using h
  go_enter Tryz.func13, Tryz.ntmps13
  go_wp2
  go_loopw [5] (fun t wr => ∃ k : Nat, k ≤ n ∧ t = .int .i64 k ∧ l.take k = r.take k ∧ Below w.heap.size w wr) (fun t _ => n - (intOf t).toNat)
  case atStart => exact ⟨0, by omega, rfl, rfl, Below.refl _ _⟩
  case round =>
    obtain ⟨k, hk, rfl, hall, hbr⟩ := hrel
    have HA := Lib.hid hall
    clear hall
    by_cases hlt : k < n
    · obtain ⟨g, o, x1, x2, rfl, hg, HX, hc1, hc2⟩ := (hl.step hbr).at_ hlt
      obtain ⟨g', o', y1, y2, rfl, hg', HY, hd1, hd2⟩ := (hr.step hbr).at_ hlt
      clear hl hr
      have HS : Hid ((x1, x2) = (y1, y2) → l.take (k + 1) = r.take (k + 1)) := Lib.hid fun h => by rw [take_snoc? HX.out, take_snoc? HY.out, HA.out, h]
      have HF : Hid ((x1, x2) ≠ (y1, y2) → (l == r) = false) := Lib.hid fun h => HN.out k _ _ HX.out HY.out h
      have hq := neq_spn x1 x2 y1 y2
      have hgd := eqg_spn
      go_wp2
      go_quiet (fail)
      go_wp2
      · have hne : (x1, x2) ≠ (y1, y2) := by rintro ⟨⟩; simp_all
        go_ret
        exact ⟨ret_bool (HF.out hne).symm, below_drewN hbr _⟩
      · have he : (x1, x2) = (y1, y2) := by simp_all
        go_roundw
        case rel => exact ⟨k + 1, by omega, by go_num, HS.out he, below_drewN hbr _⟩
        case measure => simp [intOf]; omega
    · obtain rfl : k = n := by omega
      go_wp2
      go_ret
      exact ⟨ret_bool (HT.out HA.out).symm, hbr⟩
theorem itoa_nat (p : Nat) (w : World) (h2 : (p : Int) ≤ 9223372036854775807) (ht : Tab w) : Calls Tryz.prog 39 #[.int .i64 (p : Int)] w fun e w' => e = .returned (.string (bs (Lib.decDigits p))) ∧ Below w.heap.size w w' := by
  have h := Tryz.strconv_Itoa (p : Int) (by omega) h2 w ht
  rw [Lib.itoa_nonneg] at h
  refine h.mono fun e w' h => ⟨h.1, ?_⟩
  obtain ⟨q, os, h3⟩ := h.2
  rw [h3]
  exact Lib.below_grow _ _ (Nat.le_refl _) q os
set_option maxHeartbeats 2000000 in
theorem place_p (x y : Int) (n : Nat) (w : World) (ht : Tab w) (hx0 : 0 ≤ x) (hx1 : x ≤ 4611686018427387904) (hy0 : 0 ≤ y) (hy1 : y ≤ 4611686018427387904) (hn : n ≤ 4611686018427387904) :
    Calls Tryz.prog 40 #[.agg #[.int .i64 x, .int .i64 y], .int .i64 n] w fun e w' => e = .returned (.string (bs (Rg.placeL (x, y) n))) ∧ Below w.heap.size w w' := by
  obtain ⟨i, rfl⟩ : ∃ i : Nat, x = i := ⟨x.toNat, by omega⟩
  obtain ⟨j, rfl⟩ : ∃ j : Nat, y = j := ⟨y.toNat, by omega⟩
  have HO : Hid (Rg.placeL ((i : Int), (j : Int)) n = [98, 121, 116, 101, 115, 32] ++ Lib.decDigits i ++ [45] ++ Lib.decDigits j ++ [47] ++ Lib.decDigits n) := Lib.hid (by unfold Rg.placeL; rfl)
  have hal := alloc_below w (.cells #[.int .i64 (i : Int), .int .i64 (j : Int)] 43)
  have hr := heap_alloc_new w (.cells #[.int .i64 (i : Int), .int .i64 (j : Int)] 43)
  have H1 := Lib.hid fun W (hT : Tab W) => itoa_nat i W (by omega) hT
  have H2 := Lib.hid fun W (hT : Tab W) => itoa_nat j W (by omega) hT
  have H3 := Lib.hid fun W (hT : Tab W) => itoa_nat n W (by omega) hT
  have hL1 := dec_len (k := i) (by omega)
  have hL2 := dec_len (k := j) (by omega)
  have hL3 := dec_len (k := n) (by omega)
  have ht1 := tab_b ht hal
  generalize Lib.decDigits i = D1 at *
  generalize Lib.decDigits j = D2 at *
  generalize Lib.decDigits n = D3 at *
  generalize Rg.placeL _ _ = O at *
  go_enter Tryz.func40, Tryz.ntmps40
  go_upto_region 1 with fail
  generalize w.alloc (.cells #[.int .i64 (i : Int), .int .i64 (j : Int)] 43) = w1 at *
  refine wp_region_detN (n := 14) (S := fun _ W => W.heap[w.heap.size]? = some (.cells #[.int .i64 (i : Int), .int .i64 (j : Int)] 43 (0, 0)) ∧ Below w.heap.size w W ∧ Tab W) (by kernel_rfl) rfl ⟨hr, hal.drew, ht1⟩ ?_
  refine' DetS.takeL (i := 0) (v := _) rfl (by kernel_rfl) (by kernel_rfl) (by kernel_rfl) (YS.pure rfl ?sd1_0 ?rd1_0) ?nd1_0
  case rd1_0 => intro L W hS; obtain ⟨c0, c1, -⟩ := row_facts2s hS.1; go_simp; first | rfl | (rw [if_neg (by omega)] <;> rfl) | (rw [if_neg (by simp; omega)] <;> rfl) | (rw [if_neg (by simp)] <;> rfl)
  case sd1_0 => exact fun L W _ h => h
  simp only [Act.put, List.setIfInBounds_toArray, List.set_cons_zero, List.set_cons_succ]
  refine' DetS.takeL (i := 1) (v := _) rfl (by kernel_rfl) (by kernel_rfl) (by kernel_rfl) (YS.pure rfl ?sd1_1 ?rd1_1) ?nd1_1
  case rd1_1 => intro L W hS; obtain ⟨c0, c1, -⟩ := row_facts2s hS.1; go_simp; first | rfl | (rw [if_neg (by omega)] <;> rfl) | (rw [if_neg (by simp; omega)] <;> rfl) | (rw [if_neg (by simp)] <;> rfl)
  case sd1_1 => exact fun L W _ h => h
  simp only [Act.put, List.setIfInBounds_toArray, List.set_cons_zero, List.set_cons_succ]
  refine' DetS.takeL (i := 2) (v := _) rfl (by kernel_rfl) (by kernel_rfl) (by kernel_rfl) (YS.call (f := _) (args := _) rfl ?rd1_2 ?cd1_2) ?nd1_2
  case rd1_2 => intro W; go_simp; constructor <;> rfl
  case cd1_2 =>
    intro L W hL hS
    refine (H1.out W hS.2.2).mono ?_
    rintro e w9 ⟨rfl, hb9⟩
    exact ⟨by rfl, row_keep hS.1 hb9, bnext hS.2.1 hb9 hS.2.1.size, tab_b hS.2.2 hb9⟩
  simp only [Act.put, List.setIfInBounds_toArray, List.set_cons_zero, List.set_cons_succ]
  refine' DetS.takeL (i := 3) (v := _) rfl (by kernel_rfl) (by kernel_rfl) (by kernel_rfl) (YS.pure rfl ?sd1_3 ?rd1_3) ?nd1_3
  case rd1_3 => intro L W hS; obtain ⟨c0, c1, -⟩ := row_facts2s hS.1; go_simp; first | rfl | (rw [if_neg (by omega)] <;> rfl) | (rw [if_neg (by simp; omega)] <;> rfl) | (rw [if_neg (by simp)] <;> rfl)
  case sd1_3 => exact fun L W _ h => h
  simp only [Act.put, List.setIfInBounds_toArray, List.set_cons_zero, List.set_cons_succ]
  refine' DetS.takeL (i := 4) (v := _) rfl (by kernel_rfl) (by kernel_rfl) (by kernel_rfl) (YS.pure rfl ?sd1_4 ?rd1_4) ?nd1_4
  case rd1_4 => intro L W hS; obtain ⟨c0, c1, -⟩ := row_facts2s hS.1; go_simp; first | rfl | (rw [if_neg (by omega)] <;> rfl) | (rw [if_neg (by simp; omega)] <;> rfl) | (rw [if_neg (by simp)] <;> rfl)
  case sd1_4 => exact fun L W _ h => h
  simp only [Act.put, List.setIfInBounds_toArray, List.set_cons_zero, List.set_cons_succ]
  refine' DetS.takeL (i := 5) (v := _) rfl (by kernel_rfl) (by kernel_rfl) (by kernel_rfl) (YS.pure rfl ?sd1_5 ?rd1_5) ?nd1_5
  case rd1_5 => intro L W hS; obtain ⟨c0, c1, -⟩ := row_facts2s hS.1; go_simp; first | rfl | (rw [if_neg (by omega)] <;> rfl) | (rw [if_neg (by simp; omega)] <;> rfl) | (rw [if_neg (by simp)] <;> rfl)
  case sd1_5 => exact fun L W _ h => h
  simp only [Act.put, List.setIfInBounds_toArray, List.set_cons_zero, List.set_cons_succ]
  refine' DetS.takeL (i := 6) (v := _) rfl (by kernel_rfl) (by kernel_rfl) (by kernel_rfl) (YS.pure rfl ?sd1_6 ?rd1_6) ?nd1_6
  case rd1_6 => intro L W hS; obtain ⟨c0, c1, -⟩ := row_facts2s hS.1; go_simp; first | rfl | (rw [if_neg (by omega)] <;> rfl) | (rw [if_neg (by simp; omega)] <;> rfl) | (rw [if_neg (by simp)] <;> rfl)
  case sd1_6 => exact fun L W _ h => h
  simp only [Act.put, List.setIfInBounds_toArray, List.set_cons_zero, List.set_cons_succ]
  refine' DetS.takeL (i := 7) (v := _) rfl (by kernel_rfl) (by kernel_rfl) (by kernel_rfl) (YS.call (f := _) (args := _) rfl ?rd1_7 ?cd1_7) ?nd1_7
  case rd1_7 => intro W; go_simp; constructor <;> rfl
  case cd1_7 =>
    intro L W hL hS
    refine (H2.out W hS.2.2).mono ?_
    rintro e w9 ⟨rfl, hb9⟩
    exact ⟨by rfl, row_keep hS.1 hb9, bnext hS.2.1 hb9 hS.2.1.size, tab_b hS.2.2 hb9⟩
  simp only [Act.put, List.setIfInBounds_toArray, List.set_cons_zero, List.set_cons_succ]
  refine' DetS.takeL (i := 8) (v := _) rfl (by kernel_rfl) (by kernel_rfl) (by kernel_rfl) (YS.pure rfl ?sd1_8 ?rd1_8) ?nd1_8
  case rd1_8 => intro L W hS; obtain ⟨c0, c1, -⟩ := row_facts2s hS.1; go_simp; first | rfl | (rw [if_neg (by omega)] <;> rfl) | (rw [if_neg (by simp; omega)] <;> rfl) | (rw [if_neg (by simp)] <;> rfl)
  case sd1_8 => exact fun L W _ h => h
  simp only [Act.put, List.setIfInBounds_toArray, List.set_cons_zero, List.set_cons_succ]
  refine' DetS.takeL (i := 9) (v := _) rfl (by kernel_rfl) (by kernel_rfl) (by kernel_rfl) (YS.pure rfl ?sd1_9 ?rd1_9) ?nd1_9
  case rd1_9 => intro L W hS; obtain ⟨c0, c1, -⟩ := row_facts2s hS.1; go_simp; first | rfl | (rw [if_neg (by omega)] <;> rfl) | (rw [if_neg (by simp; omega)] <;> rfl) | (rw [if_neg (by simp)] <;> rfl)
  case sd1_9 => exact fun L W _ h => h
  simp only [Act.put, List.setIfInBounds_toArray, List.set_cons_zero, List.set_cons_succ]
  refine' DetS.takeL (i := 10) (v := _) rfl (by kernel_rfl) (by kernel_rfl) (by kernel_rfl) (YS.pure rfl ?sd1_10 ?rd1_10) ?nd1_10
  case rd1_10 => intro L W hS; obtain ⟨c0, c1, -⟩ := row_facts2s hS.1; go_simp; first | rfl | (rw [if_neg (by omega)] <;> rfl) | (rw [if_neg (by simp; omega)] <;> rfl) | (rw [if_neg (by simp)] <;> rfl)
  case sd1_10 => exact fun L W _ h => h
  simp only [Act.put, List.setIfInBounds_toArray, List.set_cons_zero, List.set_cons_succ]
  refine' DetS.takeL (i := 11) (v := _) rfl (by kernel_rfl) (by kernel_rfl) (by kernel_rfl) (YS.call (f := _) (args := _) rfl ?rd1_11 ?cd1_11) ?nd1_11
  case rd1_11 => intro W; go_simp; constructor <;> rfl
  case cd1_11 =>
    intro L W hL hS
    refine (H3.out W hS.2.2).mono ?_
    rintro e w9 ⟨rfl, hb9⟩
    exact ⟨by rfl, row_keep hS.1 hb9, bnext hS.2.1 hb9 hS.2.1.size, tab_b hS.2.2 hb9⟩
  simp only [Act.put, List.setIfInBounds_toArray, List.set_cons_zero, List.set_cons_succ]
  refine' DetS.takeL (i := 12) (v := _) rfl (by kernel_rfl) (by kernel_rfl) (by kernel_rfl) (YS.pure rfl ?sd1_12 ?rd1_12) ?nd1_12
  case rd1_12 => intro L W hS; obtain ⟨c0, c1, -⟩ := row_facts2s hS.1; go_simp; first | rfl | (rw [if_neg (by omega)] <;> rfl) | (rw [if_neg (by simp; omega)] <;> rfl) | (rw [if_neg (by simp)] <;> rfl)
  case sd1_12 => exact fun L W _ h => h
  simp only [Act.put, List.setIfInBounds_toArray, List.set_cons_zero, List.set_cons_succ]
  refine' DetS.takeL (i := 13) (v := _) rfl (by kernel_rfl) (by kernel_rfl) (by kernel_rfl) (YS.pure rfl ?sd1_13 ?rd1_13) ?nd1_13
  case rd1_13 => intro L W hS; obtain ⟨c0, c1, -⟩ := row_facts2s hS.1; go_simp; first | rfl | (rw [if_neg (by omega)] <;> rfl) | (rw [if_neg (by simp; omega)] <;> rfl) | (rw [if_neg (by simp)] <;> rfl)
  case sd1_13 => exact fun L W _ h => h
  simp only [Act.put, List.setIfInBounds_toArray, List.set_cons_zero, List.set_cons_succ]
  refine DetS.done (by kernel_rfl) (fun W hS => ?_) _
  go_wp2
  go_ret
  exact ⟨ret_str HO.out.symm, hS.2.1⟩
set_option maxHeartbeats 2000000 in
theorem place_r (x y : Int) (n : Nat) (w : World) (hx0 : 0 ≤ x) (hx1 : x ≤ 4611686018427387904) (hy0 : 0 ≤ y) (hy1 : y ≤ 4611686018427387904) (hn : n ≤ 4611686018427387904) :
    Calls Tryz.prog 47 #[.agg #[.int .i64 x, .int .i64 y], .int .i64 n] w fun e w' => e = .returned (.string (bs (Rg.placeL (x, y) n))) ∧ Below w.heap.size w w' := by
  obtain ⟨i, rfl⟩ : ∃ i : Nat, x = i := ⟨x.toNat, by omega⟩
  obtain ⟨j, rfl⟩ : ∃ j : Nat, y = j := ⟨y.toNat, by omega⟩
  have HO : Hid (Rg.placeL ((i : Int), (j : Int)) n = [98, 121, 116, 101, 115, 32] ++ Lib.decDigits i ++ [45] ++ Lib.decDigits j ++ [47] ++ Lib.decDigits n) := Lib.hid (by unfold Rg.placeL; rfl)
  have hal := alloc_below w (.cells #[.int .i64 (i : Int), .int .i64 (j : Int)] 43)
  have hr := heap_alloc_new w (.cells #[.int .i64 (i : Int), .int .i64 (j : Int)] 43)
  have H1 := Lib.hid fun W => show_pos i W (by omega)
  have H2 := Lib.hid fun W => show_pos j W (by omega)
  have H3 := Lib.hid fun W => show_pos n W (by omega)
  have hL1 := dec_len (k := i) (by omega)
  have hL2 := dec_len (k := j) (by omega)
  have hL3 := dec_len (k := n) (by omega)
  generalize Lib.decDigits i = D1 at *
  generalize Lib.decDigits j = D2 at *
  generalize Lib.decDigits n = D3 at *
  generalize Rg.placeL _ _ = O at *
  go_enter Tryz.func47, Tryz.ntmps47
  go_upto_region 1 with fail
  generalize w.alloc (.cells #[.int .i64 (i : Int), .int .i64 (j : Int)] 43) = w1 at *
  refine wp_region_detN (n := 14) (S := fun _ W => W.heap[w.heap.size]? = some (.cells #[.int .i64 (i : Int), .int .i64 (j : Int)] 43 (0, 0)) ∧ Below w.heap.size w W ∧ True) (by kernel_rfl) rfl ⟨hr, hal.drew, trivial⟩ ?_
  refine' DetS.takeL (i := 0) (v := _) rfl (by kernel_rfl) (by kernel_rfl) (by kernel_rfl) (YS.pure rfl ?sd1_0 ?rd1_0) ?nd1_0
  case rd1_0 => intro L W hS; obtain ⟨c0, c1, -⟩ := row_facts2s hS.1; go_simp; first | rfl | (rw [if_neg (by omega)] <;> rfl) | (rw [if_neg (by simp; omega)] <;> rfl) | (rw [if_neg (by simp)] <;> rfl)
  case sd1_0 => exact fun L W _ h => h
  simp only [Act.put, List.setIfInBounds_toArray, List.set_cons_zero, List.set_cons_succ]
  refine' DetS.takeL (i := 1) (v := _) rfl (by kernel_rfl) (by kernel_rfl) (by kernel_rfl) (YS.pure rfl ?sd1_1 ?rd1_1) ?nd1_1
  case rd1_1 => intro L W hS; obtain ⟨c0, c1, -⟩ := row_facts2s hS.1; go_simp; first | rfl | (rw [if_neg (by omega)] <;> rfl) | (rw [if_neg (by simp; omega)] <;> rfl) | (rw [if_neg (by simp)] <;> rfl)
  case sd1_1 => exact fun L W _ h => h
  simp only [Act.put, List.setIfInBounds_toArray, List.set_cons_zero, List.set_cons_succ]
  refine' DetS.takeL (i := 2) (v := _) rfl (by kernel_rfl) (by kernel_rfl) (by kernel_rfl) (YS.call (f := _) (args := _) rfl ?rd1_2 ?cd1_2) ?nd1_2
  case rd1_2 => intro W; go_simp; constructor <;> rfl
  case cd1_2 =>
    intro L W hL hS
    refine (H1.out W).mono ?_
    rintro e w9 ⟨rfl, hb9⟩
    exact ⟨by rfl, row_keep hS.1 hb9, bnext hS.2.1 hb9 hS.2.1.size, trivial⟩
  simp only [Act.put, List.setIfInBounds_toArray, List.set_cons_zero, List.set_cons_succ]
  refine' DetS.takeL (i := 3) (v := _) rfl (by kernel_rfl) (by kernel_rfl) (by kernel_rfl) (YS.pure rfl ?sd1_3 ?rd1_3) ?nd1_3
  case rd1_3 => intro L W hS; obtain ⟨c0, c1, -⟩ := row_facts2s hS.1; go_simp; first | rfl | (rw [if_neg (by omega)] <;> rfl) | (rw [if_neg (by simp; omega)] <;> rfl) | (rw [if_neg (by simp)] <;> rfl)
  case sd1_3 => exact fun L W _ h => h
  simp only [Act.put, List.setIfInBounds_toArray, List.set_cons_zero, List.set_cons_succ]
  refine' DetS.takeL (i := 4) (v := _) rfl (by kernel_rfl) (by kernel_rfl) (by kernel_rfl) (YS.pure rfl ?sd1_4 ?rd1_4) ?nd1_4
  case rd1_4 => intro L W hS; obtain ⟨c0, c1, -⟩ := row_facts2s hS.1; go_simp; first | rfl | (rw [if_neg (by omega)] <;> rfl) | (rw [if_neg (by simp; omega)] <;> rfl) | (rw [if_neg (by simp)] <;> rfl)
  case sd1_4 => exact fun L W _ h => h
  simp only [Act.put, List.setIfInBounds_toArray, List.set_cons_zero, List.set_cons_succ]
  refine' DetS.takeL (i := 5) (v := _) rfl (by kernel_rfl) (by kernel_rfl) (by kernel_rfl) (YS.pure rfl ?sd1_5 ?rd1_5) ?nd1_5
  case rd1_5 => intro L W hS; obtain ⟨c0, c1, -⟩ := row_facts2s hS.1; go_simp; first | rfl | (rw [if_neg (by omega)] <;> rfl) | (rw [if_neg (by simp; omega)] <;> rfl) | (rw [if_neg (by simp)] <;> rfl)
  case sd1_5 => exact fun L W _ h => h
  simp only [Act.put, List.setIfInBounds_toArray, List.set_cons_zero, List.set_cons_succ]
  refine' DetS.takeL (i := 6) (v := _) rfl (by kernel_rfl) (by kernel_rfl) (by kernel_rfl) (YS.pure rfl ?sd1_6 ?rd1_6) ?nd1_6
  case rd1_6 => intro L W hS; obtain ⟨c0, c1, -⟩ := row_facts2s hS.1; go_simp; first | rfl | (rw [if_neg (by omega)] <;> rfl) | (rw [if_neg (by simp; omega)] <;> rfl) | (rw [if_neg (by simp)] <;> rfl)
  case sd1_6 => exact fun L W _ h => h
  simp only [Act.put, List.setIfInBounds_toArray, List.set_cons_zero, List.set_cons_succ]
  refine' DetS.takeL (i := 7) (v := _) rfl (by kernel_rfl) (by kernel_rfl) (by kernel_rfl) (YS.call (f := _) (args := _) rfl ?rd1_7 ?cd1_7) ?nd1_7
  case rd1_7 => intro W; go_simp; constructor <;> rfl
  case cd1_7 =>
    intro L W hL hS
    refine (H2.out W).mono ?_
    rintro e w9 ⟨rfl, hb9⟩
    exact ⟨by rfl, row_keep hS.1 hb9, bnext hS.2.1 hb9 hS.2.1.size, trivial⟩
  simp only [Act.put, List.setIfInBounds_toArray, List.set_cons_zero, List.set_cons_succ]
  refine' DetS.takeL (i := 8) (v := _) rfl (by kernel_rfl) (by kernel_rfl) (by kernel_rfl) (YS.pure rfl ?sd1_8 ?rd1_8) ?nd1_8
  case rd1_8 => intro L W hS; obtain ⟨c0, c1, -⟩ := row_facts2s hS.1; go_simp; first | rfl | (rw [if_neg (by omega)] <;> rfl) | (rw [if_neg (by simp; omega)] <;> rfl) | (rw [if_neg (by simp)] <;> rfl)
  case sd1_8 => exact fun L W _ h => h
  simp only [Act.put, List.setIfInBounds_toArray, List.set_cons_zero, List.set_cons_succ]
  refine' DetS.takeL (i := 9) (v := _) rfl (by kernel_rfl) (by kernel_rfl) (by kernel_rfl) (YS.pure rfl ?sd1_9 ?rd1_9) ?nd1_9
  case rd1_9 => intro L W hS; obtain ⟨c0, c1, -⟩ := row_facts2s hS.1; go_simp; first | rfl | (rw [if_neg (by omega)] <;> rfl) | (rw [if_neg (by simp; omega)] <;> rfl) | (rw [if_neg (by simp)] <;> rfl)
  case sd1_9 => exact fun L W _ h => h
  simp only [Act.put, List.setIfInBounds_toArray, List.set_cons_zero, List.set_cons_succ]
  refine' DetS.takeL (i := 10) (v := _) rfl (by kernel_rfl) (by kernel_rfl) (by kernel_rfl) (YS.pure rfl ?sd1_10 ?rd1_10) ?nd1_10
  case rd1_10 => intro L W hS; obtain ⟨c0, c1, -⟩ := row_facts2s hS.1; go_simp; first | rfl | (rw [if_neg (by omega)] <;> rfl) | (rw [if_neg (by simp; omega)] <;> rfl) | (rw [if_neg (by simp)] <;> rfl)
  case sd1_10 => exact fun L W _ h => h
  simp only [Act.put, List.setIfInBounds_toArray, List.set_cons_zero, List.set_cons_succ]
  refine' DetS.takeL (i := 11) (v := _) rfl (by kernel_rfl) (by kernel_rfl) (by kernel_rfl) (YS.call (f := _) (args := _) rfl ?rd1_11 ?cd1_11) ?nd1_11
  case rd1_11 => intro W; go_simp; constructor <;> rfl
  case cd1_11 =>
    intro L W hL hS
    refine (H3.out W).mono ?_
    rintro e w9 ⟨rfl, hb9⟩
    exact ⟨by rfl, row_keep hS.1 hb9, bnext hS.2.1 hb9 hS.2.1.size, trivial⟩
  simp only [Act.put, List.setIfInBounds_toArray, List.set_cons_zero, List.set_cons_succ]
  refine' DetS.takeL (i := 12) (v := _) rfl (by kernel_rfl) (by kernel_rfl) (by kernel_rfl) (YS.pure rfl ?sd1_12 ?rd1_12) ?nd1_12
  case rd1_12 => intro L W hS; obtain ⟨c0, c1, -⟩ := row_facts2s hS.1; go_simp; first | rfl | (rw [if_neg (by omega)] <;> rfl) | (rw [if_neg (by simp; omega)] <;> rfl) | (rw [if_neg (by simp)] <;> rfl)
  case sd1_12 => exact fun L W _ h => h
  simp only [Act.put, List.setIfInBounds_toArray, List.set_cons_zero, List.set_cons_succ]
  refine' DetS.takeL (i := 13) (v := _) rfl (by kernel_rfl) (by kernel_rfl) (by kernel_rfl) (YS.pure rfl ?sd1_13 ?rd1_13) ?nd1_13
  case rd1_13 => intro L W hS; obtain ⟨c0, c1, -⟩ := row_facts2s hS.1; go_simp; first | rfl | (rw [if_neg (by omega)] <;> rfl) | (rw [if_neg (by simp; omega)] <;> rfl) | (rw [if_neg (by simp)] <;> rfl)
  case sd1_13 => exact fun L W _ h => h
  simp only [Act.put, List.setIfInBounds_toArray, List.set_cons_zero, List.set_cons_succ]
  refine DetS.done (by kernel_rfl) (fun W hS => ?_) _
  go_wp2
  go_ret
  exact ⟨ret_str HO.out.symm, hS.2.1⟩
set_option maxHeartbeats 400000 in
theorem cloneB_own (A : Option Addr) (n c : Nat) (l : List UInt8) (w : World) (hl : RdB w A n l) (hn : n ≤ 1099511627776) :
    Calls Tryz.prog 37 #[.slice A n c] w fun e w' => ∃ A' n' c', e = .returned (.slice A' n' c') ∧ OwnB w' w.heap.size (.slice A' n' c') l ∧ Below w.heap.size w w' := by
  cases A with
  | none =>
    have hn0 : n = 0 := by
      rcases Nat.eq_zero_or_pos n with h | h
      · exact h
      · obtain ⟨_, _, h', _⟩ := hl.2.2 h; cases h'
    subst hn0
    have hl0 : l = [] := List.eq_nil_of_length_eq_zero hl.1
    subst hl0
    have hq := fun w => Lib.run_eql_slice_nil (P := Tryz.prog) w 32 _ none 0 c 0 0 Tryz.underlying32
    go_enter Tryz.func37, Tryz.ntmps37
    go_wp2
    go_ret
    exact ⟨_, _, _, rfl, OwnB.nil _ _, Below.refl _ _⟩
  | some a =>
    have hq := fun w => Lib.run_eql_slice_nil (P := Tryz.prog) w 32 _ (some a) n c 0 0 Tryz.underlying32
    go_enter Tryz.func37, Tryz.ntmps37
    go_wp2_with
      (at_builtin
       refine wp_appB rfl (.tmp 5) (.tmp 6) rfl w.heap.size (.slice (some ⟨w.heap.size, 0, none⟩) 0 0) [] rfl (OwnB.made w) (some a) n c l rfl ?hr ?hby ?hbase ?_
       case hr => exact hl.step (alloc_below _ _)
       case hby => simp; omega
       case hbase => simp
       intro A1 n1 c1 w1 hown1 hb1 hn1)
    go_ret
    exact ⟨A1, n1, c1, rfl, hown1, (alloc_below _ _).trans hb1⟩
set_option maxHeartbeats 1000000 in
theorem put_p (A : Option Addr) (n c : Nat) (l : List Fld) (nm vl : List UInt8) (w : World) (hl : RdF w A n l) (hn : n ≤ 2097152) (hls : FlenOK l) (h1 : nm.length ≤ 1048576) :
    Calls Tryz.prog 26 #[.slice A n c, .string (bs nm), .string (bs vl)] w fun e w' => ∃ A' n' c', e = .returned (.slice A' n' c') ∧ OwnF w' w.heap.size (.slice A' n' c') (Rg.putF l nm vl) ∧ Below w.heap.size w w' := by
  have HP : Hid (Rg.putF l nm vl = withoutF l [nm] ++ [(nm, vl)]) := Lib.hid rfl
  have hal := alloc_below w (.cells #[.string (bs nm)] 9)
  have hC := without_own A (some ⟨w.heap.size, 0, none⟩) n c 1 1 l [nm] _ (hl.step hal) (one_rdS w nm 9) (by omega) (by omega) hls (by intro s hs; rw [List.mem_singleton] at hs; subst hs; omega)
  have HWL : Hid ((withoutF l [nm]).length ≤ n) := Lib.hid (by rw [← hl.1]; exact List.length_filter_le _ _)
  generalize Rg.putF l nm vl = R at *
  generalize withoutF l [nm] = W0 at *
  go_enter Tryz.func26, Tryz.ntmps26
  go_wp2_with fail
  refine hC.mono ?_
  rintro e w1 ⟨A1, n1, c1, rfl, hown, hb1⟩
  have hbA := bnext hal hb1 hal.size
  have hwl := HWL.out
  have HS9 : Hid (w.heap.size + 1 ≤ w1.heap.size) := Lib.hid (by have := hb1.size; simpa using this)
  clear hC hl hal hb1
  go_wp2_with
    (at_builtin; go_loud (
     refine wp_appF rfl (.tmp 10) (.tmp 14) rfl (w.heap.size + 1) (.slice A1 n1 c1) W0 rfl ?ho _ 1 1 [(nm, vl)] rfl ?hr ?hby ?hbase ?_
     case ho => have h := hown.step (alloc_below w1 (.cells #[.string (bs nm), .string (bs vl)] 46)); rw [show (w.alloc (.cells #[.string (bs nm)] 9)).heap.size = w.heap.size + 1 by simp] at h; exact h
     case hr => exact one_rdF' _ _ _ _ _ (by simp)
     case hby => omega
     case hbase => exact Nat.le_trans HS9.out (alloc_below w1 _).size
     intro A6 n6 c6 w6 hown6 hb6 hn6))
  go_ret
  exact ⟨A6, n6, c6, rfl, by rw [HP.out]; exact hown6.mono (by omega), (hbA.trans ((alloc_below w1 _).mono hbA.size)).trans (hb6.mono (by omega))⟩
set_option maxHeartbeats 1000000 in
theorem put_r (A : Option Addr) (n c : Nat) (l : List Fld) (nm vl : List UInt8) (w : World) (hl : RdF w A n l) (hn : n ≤ 2097152) (hls : FlenOK l) (h1 : nm.length ≤ 1048576) :
    Calls Tryz.prog 46 #[.slice A n c, .string (bs nm), .string (bs vl)] w fun e w' => ∃ A' n' c', e = .returned (.slice A' n' c') ∧ OwnF w' w.heap.size (.slice A' n' c') (Rg.putF l nm vl) ∧ Below w.heap.size w w' := by
  have HP : Hid (Rg.putF l nm vl = withoutF l [nm] ++ [(nm, vl)]) := Lib.hid rfl
  have hal := alloc_below w (.cells #[.string (bs nm)] 9)
  have hC := rwithout_own A (some ⟨w.heap.size, 0, none⟩) n c 1 1 l [nm] _ (hl.step hal) (one_rdS w nm 9) (by omega) (by omega) hls (by intro s hs; rw [List.mem_singleton] at hs; subst hs; omega)
  have HWL : Hid ((withoutF l [nm]).length ≤ n) := Lib.hid (by rw [← hl.1]; exact List.length_filter_le _ _)
  generalize Rg.putF l nm vl = R at *
  generalize withoutF l [nm] = W0 at *
  go_enter Tryz.func46, Tryz.ntmps46
  go_wp2_with fail
  refine hC.mono ?_
  rintro e w1 ⟨A1, n1, c1, rfl, hown, hb1⟩
  have hbA := bnext hal hb1 hal.size
  have hwl := HWL.out
  have HS9 : Hid (w.heap.size + 1 ≤ w1.heap.size) := Lib.hid (by have := hb1.size; simpa using this)
  clear hC hl hal hb1
  go_wp2_with
    (at_builtin; go_loud (
     refine wp_appF rfl (.tmp 10) (.tmp 14) rfl (w.heap.size + 1) (.slice A1 n1 c1) W0 rfl ?ho _ 1 1 [(nm, vl)] rfl ?hr ?hby ?hbase ?_
     case ho => have h := hown.step (alloc_below w1 (.cells #[.string (bs nm), .string (bs vl)] 46)); rw [show (w.alloc (.cells #[.string (bs nm)] 9)).heap.size = w.heap.size + 1 by simp] at h; exact h
     case hr => exact one_rdF' _ _ _ _ _ (by simp)
     case hby => omega
     case hbase => exact Nat.le_trans HS9.out (alloc_below w1 _).size
     intro A6 n6 c6 w6 hown6 hb6 hn6))
  go_ret
  exact ⟨A6, n6, c6, rfl, by rw [HP.out]; exact hown6.mono (by omega), (hbA.trans ((alloc_below w1 _).mono hbA.size)).trans (hb6.mono (by omega))⟩
end Go.Proofs.YtcaekfebnhedpaaGreatDoor
