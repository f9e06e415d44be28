/- The reference's Lower: letters A to Z made small. Conditions: the length at most 2^47. -/
import Derived.Test.YtfhkgbimnfjfhaaDoorFold
set_option linter.unusedVariables false
set_option linter.unusedSimpArgs false
namespace Go.Proofs.YtfhkgbimnfjfhaaDoor
open Go.RowKit

set_option maxHeartbeats 400000 in
theorem lower_any (s : List UInt8) (w : World) (hs : s.length ≤ 140737488355328) :
    Calls Tryd.prog 49 #[.string (bs s)] w fun e w' => e = .returned (.string (bs (fold s))) ∧ Below w.heap.size w w' := by
  have HE : Hid ((s.take s.length).map low = fold s) := Lib.hid (by rw [List.take_length]; rfl)
  go_enter Tryd.func49, Tryd.ntmps49
  go_upto_region 2 with fail
  have hm := OwnB.made w
  have hbm := alloc_below w (.cells #[] 5)
  go_wp2
  go_loopw [3, 4] (fun v t wr => ∃ (k : Nat) (A : Option Addr) (n c : Nat), k ≤ s.length ∧ t = .int .i64 k ∧ v = .slice A n c ∧ OwnB wr w.heap.size (.slice A n c) ((s.take k).map low) ∧ Below w.heap.size w wr) (fun _ t _ => s.length - (intOf t).toNat)
  case atStart => exact ⟨0, _, _, _, by omega, rfl, rfl, hm, hbm⟩
  case round =>
    obtain ⟨k, A, n, c, hk, rfl, rfl, hown, hbr⟩ := hrel
    clear hm hbm
    by_cases hlt : k < s.length
    · have HT : Hid ((s.take (k + 1)).map low = (s.take k).map low ++ [low s[k]]) := Lib.hid (by rw [take_snoc s k hlt, List.map_append]; rfl)
      have hc255 : (s[k].toNat : Int) ≤ 255 := by have := s[k].toNat_lt; omega
      have hlk : ((s.take k).map low).length = k := by simp; omega
      have HLK := Lib.hid hlk
      clear hlk
      by_cases hup : 65 ≤ s[k].toNat ∧ s[k].toNat ≤ 90
      · obtain ⟨hu1, hu2⟩ := hup
        have HV : Hid ((s[k].toNat : Int) + 32 = ((low s[k]).toNat : Int)) := Lib.hid (by rw [low_yes hu1 hu2]; rfl)
        go_upto_region 8 with fail
        rw [HV.out]
        generalize low s[k] = b at *
        go_wp2_with
          (at_builtin
           refine wp_appB rfl (.tmp 24) (.tmp 26) rfl w.heap.size (.slice A n c) _ rfl (hown.step (alloc_below _ _)) _ 1 1 [b] rfl (one_rdB _ _ _) ?hby ?hbase ?_
           case hby => rw [HLK.out]; omega
           case hbase => have := hbr.size; simp; omega
           intro A1 n1 c1 w1 hown1 hb1 hn1)
        go_roundw
        case rel => exact ⟨k + 1, A1, n1, c1, by omega, by go_num, rfl, by rw [HT.out]; exact hown1, (bnext hbr (alloc_below _ _) hbr.size).trans hb1⟩
        case measure => simp [intOf]; omega
      · have HV : Hid (s[k] = low s[k]) := Lib.hid (low_no hup).symm
        go_upto_region 8 with fail
        all_goals
          rw [HV.out]
          generalize low s[k] = b at *
          go_wp2_with
            (at_builtin
             refine wp_appB rfl (.tmp 24) (.tmp 26) rfl w.heap.size (.slice A n c) _ rfl (hown.step (alloc_below _ _)) _ 1 1 [b] rfl (one_rdB _ _ _) ?hby ?hbase ?_
             case hby => rw [HLK.out]; omega
             case hbase => have := hbr.size; simp; omega
             intro A1 n1 c1 w1 hown1 hb1 hn1)
          go_roundw
          case rel => exact ⟨k + 1, A1, n1, c1, by omega, by go_num, rfl, by rw [HT.out]; exact hown1, (bnext hbr (alloc_below _ _) hbr.size).trans hb1⟩
          case measure => simp [intOf]; omega
    · obtain rfl : k = s.length := by omega
      have hcb := conv_bs (w := wr) (A := A) (n := n) (l := fold s) (by rw [← HE.out]; exact hown.rd) c
      go_wp2
      go_ret
      exact ⟨rfl, hbr⟩
end Go.Proofs.YtfhkgbimnfjfhaaDoor
