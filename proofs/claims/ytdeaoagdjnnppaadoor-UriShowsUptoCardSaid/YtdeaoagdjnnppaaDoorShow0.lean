/- The statements' own Show: a number in decimal digits. Conditions: the number is an int. -/
import Derived.Test.YtdeaoagdjnnppaaDoorByt
import Derived.Lib.ItoaNum
import Derived.Lib.ItoaLen
import Derived.IntWalk
import Derived.Deep.Cut
import Derived.Deep.DeepCutAuto
import Derived.Deep.LoopGhost
set_option linter.unusedVariables false
set_option linter.unusedSimpArgs false
namespace Go.Proofs.YtdeaoagdjnnppaaDoor
open Go.RowKit

set_option maxRecDepth 100000
theorem one_rdBx (w : World) (b : UInt8) (t : TypeId) (x : Int) (h : x = (b.toNat : Int)) : RdB (w.alloc (.cells #[.int .u8 x] t)) (some ⟨w.heap.size, 0, none⟩) 1 [b] := by subst h; exact one_rdB w b t
def restD (r : Nat) : List UInt8 := if r = 0 then [] else Lib.decDigits r
theorem restD_step {r : Nat} (h : r ≠ 0) : restD r = restD (r / 10) ++ [UInt8.ofNat (48 + r % 10)] := by
  unfold restD
  rw [if_neg h, Lib.decDigits]
  by_cases h10 : r < 10
  · rw [dif_pos h10, if_pos (by omega)]
    simp [Nat.mod_eq_of_lt h10]
  · rw [dif_neg h10, if_neg (by omega)]
theorem dig_nat (r : Nat) : (UInt8.ofNat (48 + r % 10)).toNat = 48 + r % 10 := by
  rw [UInt8.toNat_ofNat']; omega
theorem dec_len {k : Nat} (h : k < 18446744073709551616) : (Lib.decDigits k).length ≤ 20 := by
  rw [Lib.decDigits_length]
  exact Lib.nDigits_le20 k h
set_option maxHeartbeats 4000000 in
theorem show_pos (k : Nat) (w : World) (hk : (k : Int) ≤ 9223372036854775807) :
    Calls Tryd.prog 18 #[.int .i64 k] w fun e w' => e = .returned (.string (bs (Lib.decDigits k))) ∧ Below w.heap.size w w' := by
  by_cases h0 : k = 0
  · subst h0
    have hb : (((0 : Nat) : Int) == 0) = true := rfl
    have HD : Hid (Lib.decDigits 0 = [48]) := Lib.hid (by rw [Lib.decDigits_one (by omega)]; rfl)
    go_enter Tryd.func18, Tryd.ntmps18
    go_wp2
    go_ret
    exact ⟨ret_str (by rw [HD.out]), Below.refl _ _⟩
  · have hb : ((k : Int) == 0) = false := by rw [beq_eq_false_iff_ne]; omega
    have hk0 : ¬ (k : Int) < 0 := by omega
    have hdk : decide ((k : Int) < 0) = false := by simp
    have HL := Lib.hid (dec_len (k := k) (by omega))
    have H0 : Hid (restD k ++ ([] : List UInt8).reverse = Lib.decDigits k) := Lib.hid (by unfold restD; rw [if_neg h0]; simp)
    generalize Lib.decDigits k = D at *
    have hm := OwnB.made w
    have hbm := alloc_below w (.cells #[] 5)
    go_enter Tryd.func18, Tryd.ntmps18
    go_upto_region 4 with fail
    generalize hw1 : w.alloc (.cells #[] 5) = w1 at *
    clear hw1
    go_wp2
    go_loopg [0, 3] k (fun q v ds wr => ∃ (r : Nat) (rd : List UInt8) (A : Option Addr) (n c : Nat), q = r ∧ r ≤ k ∧ v = .int .i64 (r : Int) ∧ ds = .slice A n c ∧ OwnB wr w.heap.size (.slice A n c) rd ∧ Hid (restD r ++ rd.reverse = D) ∧ Below w.heap.size w wr)
    case atStart => exact ⟨k, [], _, 0, 0, rfl, Nat.le_refl _, rfl, rfl, hm, H0, hbm⟩
    case round =>
      clear hm hbm H0
      obtain ⟨r, rd, A, n, c, hq, hrk, rfl, rfl, hown, HR, hbr⟩ := hrel
      obtain ⟨wo, rfl⟩ : ∃ wo, wo = wr := ⟨_, rfl⟩
      have hlen : rd.length ≤ 20 := by
        have h1 := congrArg List.length HR.out
        rw [List.length_append, List.length_reverse] at h1
        have := HL.out
        omega
      have hszr := hbr.size
      by_cases hr0 : r = 0
      · subst hr0
        have hbb : ((((0 : Nat) : Int)) != 0) = false := rfl
        have HF : Hid (rd.reverse = D) := Lib.hid (by have := HR.out; unfold restD at this; simpa using this)
        have hrd := hown.rd
        have hnr : rd.length = n := hrd.1
        have hal := alloc_below wo (.cells #[] 5)
        have hm := OwnB.made wo
        have hrd3 := hrd
        have hbr2 := bnext hbr hal hbr.size
        have HNR := Lib.hid hnr
        have hn20 : n ≤ 20 := by omega
        have hwn : IntKind.i64.wrap ((n : Int) - 1) = (n : Int) - 1 := IntWalk.i64_in _ (by omega)
        clear hown hrd HR hlen hnr HL hb hk0
        go_upto_region 14 with fail
        generalize hw2 : wo.alloc (.cells #[] 5) = w2 at *
        have hal9 : Below wo.heap.size wo w2 := hal
        clear hw2 hal
        go_wp2
        go_loopg [6, 7] n (fun q o t wq => ∃ (j : Nat) (A5 : Option Addr) (n5 c5 : Nat), j ≤ n ∧ q = j ∧ t = .int .i64 ((j : Int) - 1) ∧ o = .slice A5 n5 c5 ∧ OwnB wq wo.heap.size (.slice A5 n5 c5) (rd.drop j).reverse ∧ Below wo.heap.size wo wq)
        case atStart => exact ⟨n, _, 0, 0, by omega, rfl, rfl, rfl, by rw [List.drop_of_length_le (by rw [HNR.out]; exact Nat.le_refl _)]; exact hm, hal9⟩
        case round =>
          clear hm hal9
          obtain ⟨j, A5, n5, c5, hj, hq5, rfl, rfl, hown5, hb5⟩ := hrel
          obtain ⟨wp, rfl⟩ : ∃ wp, wp = wr := ⟨_, rfl⟩
          have hrd5 := hrd3.step hb5
          rcases Nat.eq_zero_or_pos j with rfl | hjp
          · have hneg : (((0 : Nat) : Int) - 1) = -1 := by omega
            rw [hneg]
            have hcv := conv_bs (w := wp) (A := A5) (n := n5) (l := D) (by have := hown5.rd; rw [List.drop_zero, HF.out] at this; exact this) c5
            clear hneg HF
            go_wp2
            go_ret
            exact ⟨rfl, hbr.trans (hb5.mono hbr.size)⟩
          · obtain ⟨i, rfl⟩ : ∃ i, j = i + 1 := ⟨j - 1, by omega⟩
            have hk1 : (((i + 1 : Nat) : Int) - 1) = (i : Int) := by omega
            rw [hk1]
            have hil : i < rd.length := by rw [HNR.out]; omega
            obtain ⟨g, o, rfl, hg, hc5⟩ := hrd5.2.2 (by omega)
            have hci := hc5 i (bytV rd[i]) (by simp [hil])
            have HRV : Hid ((rd.drop i).reverse = (rd.drop (i + 1)).reverse ++ [rd[i]]) := Lib.hid (by rw [List.drop_eq_getElem_cons hil]; simp)
            unfold bytV at hci
            have hrl : (rd.drop (i + 1)).reverse.length ≤ 20 := by have := HNR.out; simp; omega
            generalize rd[i] = b at *
            generalize (rd.drop (i + 1)).reverse = ro at *
            have i0 : (0 : Int) ≤ (i : Int) := by omega
            have i1 : (i : Int) < (n : Int) := by omega
            have hsz5 := hb5.size
            clear hk1 hc5 hrd5
            go_wp2_with
              (at_builtin; go_loud (
               refine wp_appB rfl (.tmp 41) (.tmp 46) rfl wo.heap.size (.slice A5 n5 c5) ro rfl (hown5.step (alloc_below _ _)) _ 1 1 [b] rfl (one_rdB _ _ _) ?hby2 ?hbase2 ?_
               case hby2 => omega
               case hbase2 => simp; omega
               intro A1 n1 c1 w1 hown1 hb1 hn1))
            go_roundg i
            case measure => omega
            case rel => exact ⟨i, A1, n1, c1, by omega, rfl, rfl, rfl, by rw [HRV.out]; exact hown1, (bnext hb5 (alloc_below _ _) hb5.size).trans hb1⟩
      · have hbb : ((r : Int) != 0) = true := by simp [hr0]
        have HST := Lib.hid (restD_step hr0)
        have HV : Hid ((48 : Int) + (r : Int) % 10 = ((UInt8.ofNat (48 + r % 10)).toNat : Int)) := Lib.hid (by rw [dig_nat]; omega)
        have hd0 : 0 ≤ (r : Int) % 10 := by omega
        have hd9 : (r : Int) % 10 ≤ 9 := by omega
        have hri : (r : Int) ≤ 9223372036854775807 := by omega
        generalize UInt8.ofNat (48 + r % 10) = b at *
        go_wp2_with
          (at_builtin; go_loud (
           refine wp_appB rfl (.tmp 21) (.tmp 25) rfl w.heap.size (.slice A n c) rd rfl (hown.step (alloc_below _ _)) _ 1 1 [b] rfl (one_rdBx _ _ _ _ ?hx) ?hby ?hbase ?_
           case hx => exact HV.out
           case hby => omega
           case hbase => simp; omega
           intro A1 n1 c1 w1 hown1 hb1 hn1))
        go_roundg (r / 10)
        case measure => omega
        case rel => exact ⟨r / 10, rd ++ [b], A1, n1, c1, rfl, by omega, by go_num, rfl, hown1, Lib.hid (by rw [← HR.out, HST.out]; simp), (bnext hbr (alloc_below _ _) hbr.size).trans hb1⟩
end Go.Proofs.YtdeaoagdjnnppaaDoor
