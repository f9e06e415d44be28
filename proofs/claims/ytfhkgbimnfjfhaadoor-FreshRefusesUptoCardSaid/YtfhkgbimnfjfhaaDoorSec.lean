/- Seconds, the program's and the reference's. Conditions: the text's length at most 2^30. -/
import Derived.Test.YtfhkgbimnfjfhaaDoorCtl
import Derived.Test.YtfhkgbimnfjfhaaDoorDig
import Derived.Deep.LoopGhost
import Derived.Deep.Cut
import Derived.Deep.DeepCutAuto
import Derived.IntWalk
set_option linter.unusedVariables false
set_option linter.unusedSimpArgs false
namespace Go.Proofs.YtfhkgbimnfjfhaaDoor
open Go.RowKit

set_option maxRecDepth 100000
theorem sec_no {s : List UInt8} (h : s = [] ∨ s.all Dt.isD = false) : Ctl.secL s = -1 := by unfold Ctl.secL; rw [if_pos h]
theorem sec_yes {s : List UInt8} (h0 : s ≠ []) (h : s.all Dt.isD = true) : Ctl.secL s = s.foldl Ctl.secF 0 := by unfold Ctl.secL; rw [if_neg (by simp [h0, h])]
/-- The number of the first k digits. -/
def secK (s : List UInt8) (k : Nat) : Int := (s.take k).foldl Ctl.secF 0
theorem secK_next {s : List UInt8} {k : Nat} (h : k < s.length) : secK s (k + 1) = Ctl.secF (secK s k) s[k] := by unfold secK; rw [take_snoc s k h, List.foldl_append]; rfl
theorem secF_min (v : Int) (c : UInt8) : Ctl.secF v c = min (v * 10 + ((c.toNat : Int) - 48)) 2147483648 := by unfold Ctl.secF; split <;> omega
theorem secK_bd {s : List UInt8} (h : s.all Dt.isD = true) : ∀ k, 0 ≤ secK s k ∧ secK s k ≤ 2147483648
  | 0 => by unfold secK; simp
  | k + 1 => by
    rcases Nat.lt_or_ge k s.length with hk | hk
    · rw [secK_next hk]
      exact Ctl.secF_bd (List.all_eq_true.1 h _ (List.getElem_mem hk)) (secK_bd h k).1
    · have e : secK s (k + 1) = secK s k := by unfold secK; rw [List.take_of_length_le (by omega), List.take_of_length_le hk]
      rw [e]; exact secK_bd h k
set_option maxHeartbeats 1000000 in
theorem sec_any (s : List UInt8) (w : World) (hs : s.length ≤ 1073741824) :
    Calls Tryd.prog 45 #[.string (bs s)] w fun e w' => e = .returned (.int .i64 (Ctl.secL s)) ∧ Below w.heap.size w w' := by
  by_cases h0 : s = []
  · subst h0
    rw [show Ctl.secL [] = -1 from rfl]
    go_enter Tryd.func45, Tryd.ntmps45
    go_wp2
    go_ret
    exact ⟨rfl, Below.refl _ _⟩
  have hne := emp_no h0
  have HT := Lib.hid (trimD s)
  have hC := trimD_any s w hs
  generalize Lib.trimS s [48, 49, 50, 51, 52, 53, 54, 55, 56, 57] = T at *
  by_cases hd : s.all Dt.isD = true
  · obtain rfl : T = [] := HT.out.2 hd
    have HV := Lib.hid (sec_yes h0 hd)
    generalize Ctl.secL s = R at *
    have HB := Lib.hid (secK_bd hd)
    have HN := Lib.hid fun k (h : k < s.length) => (secK_next h).trans (secF_min _ _)
    have HD := Lib.hid fun k (h : k < s.length) => Dt.isD_bd (List.all_eq_true.1 hd _ (List.getElem_mem h))
    have HE : Hid (R = secK s s.length) := Lib.hid (by rw [HV.out]; unfold secK; rw [List.take_length])
    have hcv := conv_sb
    clear hd HT h0 HV
    go_enter Tryd.func45, Tryd.ntmps45
    go_wp2_with fail
    refine hC.mono ?_
    rintro e w1 ⟨rfl, hb1⟩
    clear hC
    go_upto_region 5 with fail
    clear hcv
    have hrow := bytesWorld_row w1 5 s
    have hbel := bytesWorld_below w1 5 (bs s)
    have hsz : w1.heap.size < (Lib.bytesWorld w1 5 (bs s)).heap.size := by rw [Lib.bytesWorld_size]; omega
    have hB2 := bnext hb1 hbel hb1.size
    generalize Lib.bytesWorld w1 5 (bs s) = w0 at *
    generalize grownCap w1 s.length 0 5 = cp at *
    have HRow := Lib.hid hrow
    clear hrow hbel hb1
    go_loopg [3, 16] s.length (fun q v iv wr => ∃ k : Nat, k ≤ s.length ∧ q + k = s.length ∧ iv = .int .i64 (k : Int) ∧ v = .int .i64 (secK s k) ∧ wr = w0)
    case atStart => exact ⟨0, by omega, by omega, rfl, rfl, rfl⟩
    case round =>
      obtain ⟨k, hk, hq, rfl, rfl, rfl⟩ := hrel
      obtain ⟨w0, rfl⟩ : ∃ w0, w0 = wr := ⟨_, rfl⟩
      by_cases hlt : k < s.length
      · have hcell := (HRow.out k _ (List.getElem?_eq_getElem hlt)).1
        simp only [Nat.zero_add] at hcell
        have hc255 := s[k].toNat_lt
        obtain ⟨g1, g2⟩ := HD.out k hlt
        obtain ⟨b1, b2⟩ := HB.out k
        have HNX := Lib.hid (HN.out k hlt)
        generalize secK s k = v at *
        clear HN HD HB HE
        go_wp2
        go_roundg (s.length - (k + 1))
        case measure => omega
        case rel => exact ⟨k + 1, by omega, by omega, by go_num, by first | (rw [HNX.out]; done) | (rw [HNX.out]; congr 1; omega), rfl⟩
      · obtain rfl : k = s.length := by omega
        clear HN HD HB
        go_wp2
        go_ret
        exact ⟨ret_int HE.out.symm, hB2⟩
  · have hT : T ≠ [] := fun h => hd (HT.out.1 h)
    have hTn := emp_no hT
    rw [sec_no (.inr (by simpa using hd))]
    clear hd HT hT h0
    go_enter Tryd.func45, Tryd.ntmps45
    go_wp2_with fail
    refine hC.mono ?_
    rintro e w1 ⟨rfl, hb1⟩
    clear hC
    go_wp2
    go_ret
    exact ⟨rfl, hb1⟩
set_option maxHeartbeats 1000000 in
theorem rsec_any (s : List UInt8) (w : World) (hs : s.length ≤ 1073741824) :
    Calls Tryd.prog 35 #[.string (bs s)] w fun e w' => e = .returned (.int .i64 (Ctl.secL s)) ∧ w = w' := by
  have HNo := Lib.hid fun h => sec_no (s := s) h
  have HYe : Hid (s ≠ [] → s.all Dt.isD = true → Ctl.secL s = secK s s.length) := Lib.hid fun h0 h => by rw [sec_yes h0 h]; unfold secK; rw [List.take_length]
  generalize Ctl.secL s = R at *
  go_enter Tryd.func35, Tryd.ntmps35
  go_wp2
  go_loopg [3, 4] s.length (fun q v iv wr => ∃ (k : Nat) (x : Int), k ≤ s.length ∧ q + k = s.length ∧ iv = .int .i64 (k : Int) ∧ v = .int .i64 x ∧ 0 ≤ x ∧ x ≤ 2147483648 ∧ Hid ((s.take k).all Dt.isD = true ∧ x = secK s k) ∧ wr = w)
  case atStart => exact ⟨0, 0, by omega, by omega, rfl, rfl, by omega, by omega, Lib.hid ⟨by simp, rfl⟩, rfl⟩
  case round =>
    obtain ⟨k, x, hk, hq, rfl, rfl, hx0, hx1, HA, rfl⟩ := hrel
    by_cases hlt : k < s.length
    · have hc255 := s[k].toNat_lt
      cases hd : Dt.isD s[k] with
      | false =>
        have HR := Lib.hid (HNo.out (.inr (all_stop Dt.isD s k hlt hd)))
        have hno : s[k].toNat < 48 ∨ 57 < s[k].toNat := by
          unfold Dt.isD at hd
          simp at hd
          omega
        clear hd HA HNo HYe
        by_cases g0 : s[k].toNat < 48
        · go_wp2
          go_ret
          exact ⟨ret_int HR.out.symm, rfl⟩
        · have g3 : 57 < s[k].toNat := by omega
          go_wp2
          go_ret
          exact ⟨ret_int HR.out.symm, rfl⟩
      | true =>
        obtain ⟨g1, g2⟩ := Dt.isD_bd hd
        have g0 : ¬ s[k].toNat < 48 := by omega
        have g3 : ¬ 57 < s[k].toNat := by omega
        have hnx := secK_next hlt
        rw [← HA.out.2] at hnx
        unfold Ctl.secF at hnx
        have HAN : Hid ((s.take (k + 1)).all Dt.isD = true) := Lib.hid (by rw [all_snoc _ s k hlt, HA.out.1, hd]; rfl)
        have HNX := Lib.hid hnx
        clear hd HA hnx HNo HYe
        by_cases hbig : 2147483648 < x * 10 + (s[k].toNat : Int) - 48
        · go_wp2
          go_roundg (s.length - (k + 1))
          case measure => omega
          case rel => exact ⟨k + 1, 2147483648, by omega, by omega, by go_num, rfl, by omega, by omega, Lib.hid ⟨HAN.out, by rw [HNX.out, if_pos (by omega)]⟩, rfl⟩
        · have hb2 : 0 ≤ x * 10 + (s[k].toNat : Int) - 48 := by omega
          go_wp2
          go_roundg (s.length - (k + 1))
          case measure => omega
          case rel => exact ⟨k + 1, x * 10 + (s[k].toNat : Int) - 48, by omega, by omega, by go_num, by go_num, hb2, by omega, Lib.hid ⟨HAN.out, by rw [HNX.out, if_neg (by omega)]; omega⟩, rfl⟩
    · obtain rfl : k = s.length := by omega
      have hall := all_full Dt.isD s HA.out.1
      by_cases h0 : s = []
      · have HR := Lib.hid (HNo.out (.inl h0))
        have hem : s.isEmpty = true := by rw [h0]; rfl
        clear HNo HYe HA hall h0
        go_wp2
        go_ret
        exact ⟨ret_int HR.out.symm, rfl⟩
      · have hem := emp_no h0
        have HR : Hid (R = x) := Lib.hid (by rw [HYe.out h0 hall, HA.out.2])
        clear HNo HYe HA hall h0
        go_wp2
        go_ret
        exact ⟨ret_int HR.out.symm, rfl⟩
end Go.Proofs.YtfhkgbimnfjfhaaDoor
