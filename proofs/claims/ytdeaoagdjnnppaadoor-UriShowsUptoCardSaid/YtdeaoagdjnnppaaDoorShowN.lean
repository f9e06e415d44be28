/- The statements' own Show at negative numbers. Conditions: the number is an int. -/
import Derived.Test.YtdeaoagdjnnppaaDoorShow0
set_option linter.unusedVariables false
set_option linter.unusedSimpArgs false
namespace Go.Proofs.YtdeaoagdjnnppaaDoor
open Go.RowKit

set_option maxRecDepth 100000
theorem neg_tdiv10 (r : Nat) : (-(r : Int)).tdiv 10 = -((r / 10 : Nat) : Int) := by
  rw [Int.neg_tdiv, Int.tdiv_eq_ediv_of_nonneg (by omega)]; omega
theorem neg_tmod10 (r : Nat) : (-(r : Int)).tmod 10 = -((r % 10 : Nat) : Int) := by
  rw [Int.neg_tmod, Int.tmod_eq_emod_of_nonneg (by omega)]; omega
set_option maxHeartbeats 4000000 in
theorem show_neg (k : Nat) (w : World) (h0 : k ≠ 0) (hk : (k : Int) ≤ 9223372036854775808) :
    Calls Tryd.prog 18 #[.int .i64 (-(k : Int))] w fun e w' => e = .returned (.string (bs (45 :: Lib.decDigits k))) ∧ Below w.heap.size w w' := by
  obtain ⟨z0, hz0⟩ : ∃ z0 : Int, -(k : Int) = z0 := ⟨_, rfl⟩
  rw [hz0]
  have hb : (z0 == 0) = false := by rw [beq_eq_false_iff_ne]; omega
  have hneg : z0 < 0 := by omega
  have HZ0 : Hid (z0 = -(k : Int)) := Lib.hid hz0.symm
  have HL := Lib.hid (dec_len (k := k) (by omega))
  have H0 : Hid (restD k ++ ([] : List UInt8).reverse = Lib.decDigits k) := Lib.hid (by unfold restD; rw [if_neg h0]; simp)
  generalize Lib.decDigits k = D at *
  have hm := OwnB.made w
  have hbm := alloc_below w (.cells #[] 5)
  clear hz0
  go_enter Tryd.func18, Tryd.ntmps18
  go_upto_region 4 with fail
  generalize hw1 : w.alloc (.cells #[] 5) = w1 at *
  clear hw1
  go_wp2
  go_loopg [0, 3] k (fun q v ds wr => ∃ (r : Nat) (z : Int) (rd : List UInt8) (A : Option Addr) (n c : Nat), q = r ∧ r ≤ k ∧ v = .int .i64 z ∧ Hid (z = -(r : Int)) ∧ ds = .slice A n c ∧ OwnB wr w.heap.size (.slice A n c) rd ∧ Hid (restD r ++ rd.reverse = D) ∧ Below w.heap.size w wr)
  case atStart => exact ⟨k, z0, [], _, 0, 0, rfl, Nat.le_refl _, rfl, HZ0, rfl, hm, H0, hbm⟩
  case round =>
    clear hm hbm H0
    obtain ⟨r, z, rd, A, n, c, hq, hrk, rfl, HZ, rfl, hown, HR, hbr⟩ := hrel
    obtain ⟨wo, rfl⟩ : ∃ wo, wo = wr := ⟨_, rfl⟩
    have hlen : rd.length ≤ 20 := by
      have h1 := congrArg List.length HR.out
      rw [List.length_append, List.length_reverse] at h1
      have := HL.out
      omega
    have hszr := hbr.size
    by_cases hr0 : r = 0
    · subst hr0
      have hzz : z = 0 := by have := HZ.out; omega
      subst hzz
      have HF : Hid ((rd ++ [45]).reverse = 45 :: D) := Lib.hid (by have := HR.out; unfold restD at this; simp at this; rw [List.reverse_append, this]; rfl)
      clear HR HL
      go_upto_region 13 with
        (at_builtin; go_loud (
         refine wp_appB rfl (.tmp 30) (.tmp 31) rfl w.heap.size (.slice A n c) rd rfl (hown.step (alloc_below _ _)) _ 1 1 [45] rfl (one_rdBx _ _ _ _ ?hx) ?hby ?hbase ?_
         case hx => rfl
         case hby => omega
         case hbase => simp; omega
         intro A2 n2 c2 wb hown2 hb2 hn2))
      have hbr2 := (bnext hbr (alloc_below _ _) hbr.size).trans hb2
      have hrd := hown2.rd
      have hl2 : (rd ++ [45]).length ≤ 21 := by simp; omega
      clear hown hown2 hb2 hn2 hlen hbr
      generalize rd ++ [45] = rd2 at *
      have hnr : rd2.length = n2 := hrd.1
      have hal := alloc_below wb (.cells #[] 5)
      have hm := OwnB.made wb
      have hrd3 := hrd
      have HNR := Lib.hid hnr
      have hn20 : n2 ≤ 21 := by omega
      have hwn : IntKind.i64.wrap ((n2 : Int) - 1) = (n2 : Int) - 1 := IntWalk.i64_in _ (by omega)
      clear hrd hnr
      go_upto_region 14 with fail
      generalize hw2 : wb.alloc (.cells #[] 5) = w2 at *
      have hal9 : Below wb.heap.size wb w2 := hal
      clear hw2 hal
      go_wp2
      go_loopg [6, 7] n2 (fun q o t wq => ∃ (j : Nat) (A5 : Option Addr) (n5 c5 : Nat), j ≤ n2 ∧ q = j ∧ t = .int .i64 ((j : Int) - 1) ∧ o = .slice A5 n5 c5 ∧ OwnB wq wb.heap.size (.slice A5 n5 c5) (rd2.drop j).reverse ∧ Below wb.heap.size wb wq)
      case atStart => exact ⟨n2, _, 0, 0, by omega, rfl, rfl, rfl, by rw [List.drop_of_length_le (by rw [HNR.out]; exact Nat.le_refl _)]; exact hm, hal9⟩
      case round =>
        clear hm hal9
        obtain ⟨j, A5, n5, c5, hj, hq5, rfl, rfl, hown5, hb5⟩ := hrel
        obtain ⟨wp, rfl⟩ : ∃ wp, wp = wr := ⟨_, rfl⟩
        have hrd5 := hrd3.step hb5
        rcases Nat.eq_zero_or_pos j with rfl | hjp
        · have hneg1 : (((0 : Nat) : Int) - 1) = -1 := by omega
          rw [hneg1]
          have hcv := conv_bs (w := wp) (A := A5) (n := n5) (l := 45 :: D) (by have := hown5.rd; rw [List.drop_zero, HF.out] at this; exact this) c5
          clear hneg1 HF
          go_wp2
          go_ret
          exact ⟨rfl, hbr2.trans (hb5.mono hbr2.size)⟩
        · obtain ⟨i, rfl⟩ : ∃ i, j = i + 1 := ⟨j - 1, by omega⟩
          have hk1 : (((i + 1 : Nat) : Int) - 1) = (i : Int) := by omega
          rw [hk1]
          have hil : i < rd2.length := by rw [HNR.out]; omega
          obtain ⟨g, o, rfl, hg, hc5⟩ := hrd5.2.2 (by omega)
          have hci := hc5 i (bytV rd2[i]) (by simp [hil])
          have HRV : Hid ((rd2.drop i).reverse = (rd2.drop (i + 1)).reverse ++ [rd2[i]]) := Lib.hid (by rw [List.drop_eq_getElem_cons hil]; simp)
          unfold bytV at hci
          have hrl : (rd2.drop (i + 1)).reverse.length ≤ 21 := by have := HNR.out; simp; omega
          generalize rd2[i] = b at *
          generalize (rd2.drop (i + 1)).reverse = ro at *
          have i0 : (0 : Int) ≤ (i : Int) := by omega
          have i1 : (i : Int) < (n2 : Int) := by omega
          have hsz5 := hb5.size
          clear hk1 hc5 hrd5
          go_wp2_with
            (at_builtin; go_loud (
             refine wp_appB rfl (.tmp 41) (.tmp 46) rfl wb.heap.size (.slice A5 n5 c5) ro rfl (hown5.step (alloc_below _ _)) _ 1 1 [b] rfl (one_rdB _ _ _) ?hby2 ?hbase2 ?_
             case hby2 => omega
             case hbase2 => simp; omega
             intro A1 n1 c1 w1 hown1 hb1 hn1))
          go_roundg i
          case measure => omega
          case rel => exact ⟨i, A1, n1, c1, by omega, rfl, rfl, rfl, by rw [HRV.out]; exact hown1, (bnext hb5 (alloc_below _ _) hb5.size).trans hb1⟩
    · have hbb : (z != 0) = true := by have := HZ.out; simp; omega
      have HST := Lib.hid (restD_step hr0)
      have hm9 : z.tmod 10 = -((r % 10 : Nat) : Int) := by rw [HZ.out, neg_tmod10]
      have hq9 : z.tdiv 10 = -((r / 10 : Nat) : Int) := by rw [HZ.out, neg_tdiv10]
      obtain ⟨d, hd⟩ : ∃ d : Int, -((r % 10 : Nat) : Int) = d := ⟨_, rfl⟩
      obtain ⟨z2, hz2⟩ : ∃ z2 : Int, -((r / 10 : Nat) : Int) = z2 := ⟨_, rfl⟩
      rw [hd] at hm9
      rw [hz2] at hq9
      have HV : Hid ((48 : Int) + -d = ((UInt8.ofNat (48 + r % 10)).toNat : Int)) := Lib.hid (by rw [dig_nat]; omega)
      have d0 : d ≤ 0 := by omega
      have d9 : -9 ≤ d := by omega
      have HZ2 : Hid (z2 = -((r / 10 : Nat) : Int)) := Lib.hid hz2.symm
      have zb : -9223372036854775808 ≤ z := by have := HZ.out; omega
      have zn : z < 0 := by have := HZ.out; omega
      clear hd hz2
      generalize UInt8.ofNat (48 + r % 10) = b at *
      by_cases hd0 : d = 0
      · subst hd0
        have HV2 : Hid ((48 : Int) = (b.toNat : Int)) := Lib.hid (by have := HV.out; omega)
        go_wp2_with
          (at_builtin; go_loud (
           refine wp_appB rfl (.tmp 21) (.tmp 25) rfl w.heap.size (.slice A n c) rd rfl (hown.step (alloc_below _ _)) _ 1 1 [b] rfl (one_rdBx _ _ _ _ ?hx) ?hby ?hbase ?_
           case hx => exact HV2.out
           case hby => omega
           case hbase => simp; omega
           intro A1 n1 c1 w1 hown1 hb1 hn1))
        go_roundg (r / 10)
        case measure => omega
        case rel => exact ⟨r / 10, z2, rd ++ [b], A1, n1, c1, rfl, by omega, congrArg (Value.int .i64) (show wrap64 z2 = z2 from IntWalk.wrap64_in z2 (by have := HZ2.out; omega)), HZ2, rfl, hown1, Lib.hid (by rw [← HR.out, HST.out]; simp), (bnext hbr (alloc_below _ _) hbr.size).trans hb1⟩
      · have dn : d < 0 := by omega
        go_wp2_with
          (at_builtin; go_loud (
           refine wp_appB rfl (.tmp 21) (.tmp 25) rfl w.heap.size (.slice A n c) rd rfl (hown.step (alloc_below _ _)) _ 1 1 [b] rfl (one_rdBx _ _ _ _ ?hx) ?hby ?hbase ?_
           case hx => exact HV.out
           case hby => omega
           case hbase => simp; omega
           intro A1 n1 c1 w1 hown1 hb1 hn1))
        go_roundg (r / 10)
        case measure => omega
        case rel => exact ⟨r / 10, z2, rd ++ [b], A1, n1, c1, rfl, by omega, congrArg (Value.int .i64) (show wrap64 z2 = z2 from IntWalk.wrap64_in z2 (by have := HZ2.out; omega)), HZ2, rfl, hown1, Lib.hid (by rw [← HR.out, HST.out]; simp), (bnext hbr (alloc_below _ _) hbr.size).trans hb1⟩
end Go.Proofs.YtdeaoagdjnnppaaDoor
