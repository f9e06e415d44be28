/- The reference's Values: all values of a name. Conditions: lists' bytes at most 2^47, texts at most 2^47. -/
import Derived.Test.YtfhkgbimnfjfhaaDoorValues
import Derived.Test.YtfhkgbimnfjfhaaDoorLower
import Derived.Deep.Cut
import Derived.Deep.DeepCutAuto
set_option linter.unusedVariables false
set_option linter.unusedSimpArgs false
namespace Go.Proofs.YtfhkgbimnfjfhaaDoor
open Go.RowKit

set_option maxHeartbeats 1000000 in
theorem valuesR_own (A : Option Addr) (n c : Nat) (l : List Fld) (name : List UInt8) (w : World) (hl : RdF w A n l) (hn : n * 32 ≤ 140737488355328) (hls : FlenOK l) (hnm : name.length ≤ 140737488355328) :
    Calls Tryd.prog 36 #[.slice A n c, .string (bs name)] w fun e w' => ∃ A' n' c', e = .returned (.slice A' n' c') ∧ OwnS w' w.heap.size (.slice A' n' c') (valuesL l name) ∧ Below w.heap.size w w' := by
  have HF : Hid (valuesL (l.take n) name = valuesL l name) := Lib.hid (by rw [List.take_of_length_le (by rw [hl.1]; exact Nat.le_refl _)])
  go_enter Tryd.func36, Tryd.ntmps36
  go_upto_region 2 with fail
  have hm := OwnS.made w
  have hbm := alloc_below w (.cells #[] 9)
  go_wp2
  go_loopw [5, 6] (fun v t wr => ∃ (k : Nat) (A' : Option Addr) (n' c' : Nat), k ≤ n ∧ t = .int .i64 k ∧ v = .slice A' n' c' ∧ OwnS wr w.heap.size (.slice A' n' c') (valuesL (l.take k) name) ∧ Below w.heap.size w wr) (fun _ t _ => n - (intOf t).toNat)
  case atStart => exact ⟨0, _, _, _, by omega, rfl, rfl, hm, hbm⟩
  case round =>
    obtain ⟨k, A', n', c', hk, rfl, rfl, hown, hbr⟩ := hrel
    clear hm hbm
    by_cases hlt : k < n
    · obtain ⟨g, o, nm, vl, rfl, hg, HX, hc1, hc2⟩ := (hl.step hbr).at_ hlt
      have hsl := hls _ (mem_of_get? HX.out)
      have hsl1 : nm.length ≤ 140737488355328 := hsl.1
      clear hsl
      have HS := Lib.hid (values_snoc (name := name) HX.out)
      have HL : Hid ((valuesL (l.take k) name).length ≤ k) := Lib.hid (by have := values_le (l.take k) name; simp at this; omega)
      clear hl hls
      go_wp2_with fail
      refine (lower_any nm _ hsl1).mono ?_
      rintro e w2 ⟨rfl, hb2⟩
      have hv2 : w2.cell? ⟨g, o + k * 2 + 1, none⟩ = some (.string (bs vl)) := (hb2.cell (p := ⟨g, o + k * 2 + 1, none⟩) hg).trans hc2
      go_wp2_with fail
      refine (lower_any name _ hnm).mono ?_
      rintro e w3 ⟨rfl, hb3⟩
      have hg2 : g < w2.heap.size := Nat.lt_of_lt_of_le hg hb2.size
      have hv3 : w3.cell? ⟨g, o + k * 2 + 1, none⟩ = some (.string (bs vl)) := (hb3.cell (p := ⟨g, o + k * 2 + 1, none⟩) hg2).trans hv2
      have hown2 := (hown.step hb2).step hb3
      have hbr1 := bnext hbr hb2 hbr.size
      have hbr2 := bnext hbr1 hb3 hbr1.size
      clear hown hbr hbr1 hb2 hb3 hc1 hc2 hv2
      cases hpv : isB (nm, vl) name
      · have HPV := Lib.hid hpv
        unfold isB at hpv
        go_wp2
        go_roundw
        case rel => exact ⟨k + 1, A', n', c', by omega, by go_num, rfl, by rw [HS.out]; simp only [HPV.out, Bool.false_eq_true, if_false, List.append_nil]; exact hown2, hbr2⟩
        case measure => simp [intOf]; omega
      · have HPV := Lib.hid hpv
        unfold isB at hpv
        go_wp2_with
          (at_builtin
           refine wp_appS rfl (.tmp 23) (.tmp 29) rfl w.heap.size (.slice A' n' c') _ rfl (hown2.step (alloc_below _ _)) _ 1 1 [vl] rfl ?hr ?hby ?hbase ?_
           case hr => exact one_rdS' _ _ _ _ (by simp)
           case hby => have := HL.out; omega
           case hbase => have := hbr2.size; simp; omega
           intro A3 n3 c3 w3 hown3 hb3 hn3)
        go_roundw
        case rel => exact ⟨k + 1, A3, n3, c3, by omega, by go_num, rfl, by rw [HS.out]; simp only [HPV.out, if_true]; exact hown3, (bnext hbr2 (alloc_below _ _) hbr2.size).trans hb3⟩
        case measure => simp [intOf]; omega
    · obtain rfl : k = n := by omega
      go_wp2
      go_ret
      exact ⟨A', n', c', rfl, by rw [← HF.out]; exact hown, hbr⟩
end Go.Proofs.YtfhkgbimnfjfhaaDoor
