/- Joined texts: The reference's Without and SameTexts. The conditions stand in each line. -/
import Derived.Test.YtcaekfebnhedpaaGreatDoorM19
import Derived.Test.YtcaekfebnhedpaaGreatDoorM20
import Derived.Deep.RegionHeld3
import Derived.Deep.QuietTactic
import Derived.BigQuiet
set_option linter.unusedVariables false
set_option linter.unusedSimpArgs false
namespace Go.Proofs.YtcaekfebnhedpaaGreatDoor
open Go.RowKit

set_option maxHeartbeats 1000000 in
theorem rwithout_own (A B : Option Addr) (n c m d : Nat) (l : List Fld) (names : List (List UInt8)) (w : World) (hl : RdF w A n l) (hr : RdS w B m names) (hn : n * 32 ≤ 140737488355328) (hm : m ≤ 140737488355328) (hls : FlenOK l) (hns : SlenOK names) :
    Calls Tryz.prog 45 #[.slice A n c, .slice B m d] w fun e w' => ∃ A' n' c', e = .returned (.slice A' n' c') ∧ OwnF w' w.heap.size (.slice A' n' c') (withoutF l names) ∧ Below w.heap.size w w' := by
  have HF : Hid ((l.take n).filter (fun f => !(names.any (isB f))) = withoutF l names) := Lib.hid (by rw [List.take_of_length_le (by rw [hl.1]; exact Nat.le_refl _)]; rfl)
  have HM : Hid (names.take m = names) := Lib.hid (List.take_of_length_le (by rw [hr.1]; exact Nat.le_refl _))
  go_enter Tryz.func45, Tryz.ntmps45
  go_upto_region 2 with fail
  have hmd := OwnF.made w
  have hbm := alloc_below w (.cells #[] 46)
  go_wp2
  go_loopw [5, 6] (fun v t wr => ∃ (k : Nat) (A' : Option Addr) (n' c' : Nat), k ≤ n ∧ t = .int .i64 k ∧ v = .slice A' n' c' ∧ OwnF wr w.heap.size (.slice A' n' c') ((l.take k).filter fun f => !(names.any (isB f))) ∧ Below w.heap.size w wr) (fun _ t _ => n - (intOf t).toNat)
  case atStart => exact ⟨0, _, _, _, by omega, rfl, rfl, hmd, hbm⟩
  case round =>
    obtain ⟨k, A', n', c', hk, rfl, rfl, hown, hbr⟩ := hrel
    clear hmd hbm
    by_cases hlt : k < n
    · obtain ⟨g, o, nm, vl, rfl, hg, HX, hc1, hc2⟩ := (hl.step hbr).at_ hlt
      have hsl := hls _ (mem_of_get? HX.out)
      have hsl1 : nm.length ≤ 140737488355328 := hsl.1
      clear hsl
      obtain ⟨wo, rfl⟩ : ∃ wo : World, wo = wr := ⟨_, rfl⟩
      go_wp2
      go_loopw [7, 8] (fun kp t wr => ∃ j : Nat, j ≤ m ∧ t = .int .i64 j ∧ kp = .bool (!(names.take j).any (isB (nm, vl))) ∧ Below wo.heap.size wo wr) (fun _ t _ => m - (intOf t).toNat)
      case atStart => exact ⟨0, by omega, rfl, by simp, Below.refl _ _⟩
      case round =>
        obtain ⟨j, hj, rfl, rfl, hbi⟩ := hrel
        by_cases hjt : j < m
        · obtain ⟨g', o', s, rfl, hg', HY, hd⟩ := ((hr.step hbr).step hbi).at_ hjt
          have hss : s.length ≤ 140737488355328 := hns _ (mem_of_get? HY.out)
          have HA : Hid ((names.take (j + 1)).any (isB (nm, vl)) = ((names.take j).any (isB (nm, vl)) || isB (nm, vl) s)) := Lib.hid (any_snoc HY.out)
          have hci : wr.cell? ⟨g, o + k * 2, none⟩ = some (.string (bs nm)) := (hbi.cell (p := ⟨g, o + k * 2, none⟩) hg).trans hc1
          clear hl hr hls hns hc1 hc2
          go_wp2
          go_region_held3 (fun w' => w'.cell? ⟨g, o + k * 2, none⟩ = some (.string (bs nm)) ∧ w'.cell? ⟨g', o' + j, none⟩ = some (.string (bs s)) ∧ Below wr.heap.size wr w')
            ((first | exact ⟨hci, hd, (Below.refl _ _).drew⟩ | (apply keep2 <;> assumption)))
            ((go_at_call 32; refine (lower_any _ _ (by assumption)).mono ?_; rintro e w1 ⟨rfl, hb1⟩))
          all_goals
            have hS : Below wr.heap.size wr w1 := by have h : w1.cell? ⟨g, o + k * 2, none⟩ = some (.string (bs nm)) ∧ w1.cell? ⟨g', o' + j, none⟩ = some (.string (bs s)) ∧ Below wr.heap.size wr w1 := by assumption
                                                     exact h.2.2
            have hS2 := bnext hbi hS hbi.size
            go_wp2
            · have hib : isB (nm, vl) s = true := by unfold isB; assumption
              go_roundw
              case rel => exact ⟨j + 1, by omega, by go_num, by rw [HA.out, hib, Bool.or_true]; rfl, hS2⟩
              case measure => simp [intOf]; omega
            · have hib : isB (nm, vl) s = false := by unfold isB; assumption
              go_roundw
              case rel => exact ⟨j + 1, by omega, by go_num, by rw [HA.out, hib, Bool.or_false], hS2⟩
              case measure => simp [intOf]; omega
        · obtain rfl : j = m := by omega
          rw [HM.out]
          have hown2 := hown.step hbi
          have hbr2 := bnext hbr hbi hbr.size
          have hci1 : wr.cell? ⟨g, o + k * 2, none⟩ = some (.string (bs nm)) := (hbi.cell (p := ⟨g, o + k * 2, none⟩) hg).trans hc1
          have hci2 : wr.cell? ⟨g, o + k * 2 + 1, none⟩ = some (.string (bs vl)) := (hbi.cell (p := ⟨g, o + k * 2 + 1, none⟩) hg).trans hc2
          have HL : Hid (((l.take k).filter fun f => !(names.any (isB f))).length ≤ k) := Lib.hid (by have := List.length_filter_le (fun f => !(names.any (isB f))) (l.take k); simp at this; omega)
          have HT := Lib.hid (filter_snoc (f := fun f => !(names.any (isB f))) HX.out)
          clear hl hr hls hns hc1 hc2
          cases hny : names.any (isB (nm, vl))
          · have HNY := Lib.hid hny
            clear hny
            go_wp2_with
              (at_builtin
               refine wp_appF rfl (.tmp 35) (.tmp 40) rfl w.heap.size (.slice A' n' c') _ rfl (hown2.step (alloc_below _ _)) _ 1 1 [(nm, vl)] rfl (one_rdF _ _ _ _) ?hby ?hbase ?_
               case hby => have := HL.out; omega
               case hbase => have := hbr2.size; simp; omega
               intro A1 n1 c1 w1 hown1 hb1 hn1)
            go_roundw
            case rel => exact ⟨k + 1, A1, n1, c1, by omega, by go_num, rfl, by rw [HT.out]; simp only [HNY.out, Bool.not_false, if_true]; exact hown1, (bnext hbr2 (alloc_below _ _) hbr2.size).trans hb1⟩
            case measure => simp [intOf]; omega
          · have HNY := Lib.hid hny
            clear hny
            go_wp2
            go_roundw
            case rel => exact ⟨k + 1, A', n', c', by omega, by go_num, rfl, by rw [HT.out]; simp only [HNY.out, Bool.not_true, Bool.false_eq_true, if_false, List.append_nil]; exact hown2, hbr2⟩
            case measure => simp [intOf]; omega
    · obtain rfl : k = n := by omega
      go_wp2
      go_ret
      exact ⟨A', n', c', rfl, by rw [← HF.out]; exact hown, hbr⟩
end Go.Proofs.YtcaekfebnhedpaaGreatDoor
