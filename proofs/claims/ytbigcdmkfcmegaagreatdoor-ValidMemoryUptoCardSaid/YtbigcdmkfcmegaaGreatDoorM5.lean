/- Joined texts: The reference's Lower: letters A to Z made small; The reference's Without and SameTexts; CopyFields: the list as new memory; Comparison of two fields by Go's '==' and '!=': name and value; SameFields: equal lists. The conditions stand in each line. -/
import Derived.Test.YtbigcdmkfcmegaaGreatDoorChecked
import Derived.Test.YtbigcdmkfcmegaaGreatDoorM1
import Derived.Test.YtbigcdmkfcmegaaGreatDoorM2
import Derived.Test.YtbigcdmkfcmegaaGreatDoorM4
import Derived.Deep.RegionHeld3
import Derived.Deep.QuietTactic
import Derived.BigQuiet
import Derived.Deep.Cut
import Derived.Deep.DeepCutAuto
set_option linter.unusedVariables false
set_option linter.unusedSimpArgs false
namespace Go.Proofs.YtbigcdmkfcmegaaGreatDoor
open Go.RowKit

set_option maxHeartbeats 400000 in
theorem lower_any (s : List UInt8) (w : World) (hs : s.length ≤ 140737488355328) :
    Calls Tryz.prog 46 #[.string (bs s)] w fun e w' => e = .returned (.string (bs (fold s))) ∧ Below w.heap.size w w' := by
  have HE : Hid ((s.take s.length).map low = fold s) := Lib.hid (by rw [List.take_length]; rfl)
  go_enter Tryz.func46, Tryz.ntmps46
  go_upto_region 2 with fail
  have hm := OwnB.made w
  have hbm := alloc_below w (.cells #[] 5)
  go_wp2
  go_loopw [3, 4] (fun v t wr => ∃ (k : Nat) (A : Option Addr) (n c : Nat), k ≤ s.length ∧ t = .int .i64 k ∧ v = .slice A n c ∧ OwnB wr w.heap.size (.slice A n c) ((s.take k).map low) ∧ Below w.heap.size w wr) (fun _ t _ => s.length - (intOf t).toNat)
  case atStart => exact ⟨0, _, _, _, by omega, rfl, rfl, hm, hbm⟩
  case round =>
    obtain ⟨k, A, n, c, hk, rfl, rfl, hown, hbr⟩ := hrel
    clear hm hbm
    by_cases hlt : k < s.length
    · have HT : Hid ((s.take (k + 1)).map low = (s.take k).map low ++ [low s[k]]) := Lib.hid (by rw [take_snoc s k hlt, List.map_append]; rfl)
      have hc255 : (s[k].toNat : Int) ≤ 255 := by have := s[k].toNat_lt; omega
      have hlk : ((s.take k).map low).length = k := by simp; omega
      have HLK := Lib.hid hlk
      clear hlk
      by_cases hup : 65 ≤ s[k].toNat ∧ s[k].toNat ≤ 90
      · obtain ⟨hu1, hu2⟩ := hup
        have HV : Hid ((s[k].toNat : Int) + 32 = ((low s[k]).toNat : Int)) := Lib.hid (by rw [low_yes hu1 hu2]; rfl)
        go_upto_region 8 with fail
        rw [HV.out]
        generalize low s[k] = b at *
        go_wp2_with
          (at_builtin
           refine wp_appB rfl (.tmp 24) (.tmp 26) rfl w.heap.size (.slice A n c) _ rfl (hown.step (alloc_below _ _)) _ 1 1 [b] rfl (one_rdB _ _ _) ?hby ?hbase ?_
           case hby => rw [HLK.out]; omega
           case hbase => have := hbr.size; simp; omega
           intro A1 n1 c1 w1 hown1 hb1 hn1)
        go_roundw
        case rel => exact ⟨k + 1, A1, n1, c1, by omega, by go_num, rfl, by rw [HT.out]; exact hown1, (bnext hbr (alloc_below _ _) hbr.size).trans hb1⟩
        case measure => simp [intOf]; omega
      · have HV : Hid (s[k] = low s[k]) := Lib.hid (low_no hup).symm
        go_upto_region 8 with fail
        all_goals
          rw [HV.out]
          generalize low s[k] = b at *
          go_wp2_with
            (at_builtin
             refine wp_appB rfl (.tmp 24) (.tmp 26) rfl w.heap.size (.slice A n c) _ rfl (hown.step (alloc_below _ _)) _ 1 1 [b] rfl (one_rdB _ _ _) ?hby ?hbase ?_
             case hby => rw [HLK.out]; omega
             case hbase => have := hbr.size; simp; omega
             intro A1 n1 c1 w1 hown1 hb1 hn1)
          go_roundw
          case rel => exact ⟨k + 1, A1, n1, c1, by omega, by go_num, rfl, by rw [HT.out]; exact hown1, (bnext hbr (alloc_below _ _) hbr.size).trans hb1⟩
          case measure => simp [intOf]; omega
    · obtain rfl : k = s.length := by omega
      have hcb := conv_bs (w := wr) (A := A) (n := n) (l := fold s) (by rw [← HE.out]; exact hown.rd) c
      go_wp2
      go_ret
      exact ⟨rfl, hbr⟩
end Go.Proofs.YtbigcdmkfcmegaaGreatDoor
set_option linter.unusedVariables false
set_option linter.unusedSimpArgs false
namespace Go.Proofs.YtbigcdmkfcmegaaGreatDoor
open Go.RowKit

set_option maxHeartbeats 1000000 in
theorem rwithout_own (A B : Option Addr) (n c m d : Nat) (l : List Fld) (names : List (List UInt8)) (w : World) (hl : RdF w A n l) (hr : RdS w B m names) (hn : n * 32 ≤ 140737488355328) (hm : m ≤ 140737488355328) (hls : FlenOK l) (hns : SlenOK names) :
    Calls Tryz.prog 28 #[.slice A n c, .slice B m d] w fun e w' => ∃ A' n' c', e = .returned (.slice A' n' c') ∧ OwnF w' w.heap.size (.slice A' n' c') (withoutF l names) ∧ Below w.heap.size w w' := by
  have HF : Hid ((l.take n).filter (fun f => !(names.any (isB f))) = withoutF l names) := Lib.hid (by rw [List.take_of_length_le (by rw [hl.1]; exact Nat.le_refl _)]; rfl)
  have HM : Hid (names.take m = names) := Lib.hid (List.take_of_length_le (by rw [hr.1]; exact Nat.le_refl _))
  go_enter Tryz.func28, Tryz.ntmps28
  go_upto_region 2 with fail
  have hmd := OwnF.made w
  have hbm := alloc_below w (.cells #[] 37)
  go_wp2
  go_loopw [5, 6] (fun v t wr => ∃ (k : Nat) (A' : Option Addr) (n' c' : Nat), k ≤ n ∧ t = .int .i64 k ∧ v = .slice A' n' c' ∧ OwnF wr w.heap.size (.slice A' n' c') ((l.take k).filter fun f => !(names.any (isB f))) ∧ Below w.heap.size w wr) (fun _ t _ => n - (intOf t).toNat)
  case atStart => exact ⟨0, _, _, _, by omega, rfl, rfl, hmd, hbm⟩
  case round =>
    obtain ⟨k, A', n', c', hk, rfl, rfl, hown, hbr⟩ := hrel
    clear hmd hbm
    by_cases hlt : k < n
    · obtain ⟨g, o, nm, vl, rfl, hg, HX, hc1, hc2⟩ := (hl.step hbr).at_ hlt
      have hsl := hls _ (mem_of_get? HX.out)
      have hsl1 : nm.length ≤ 140737488355328 := hsl.1
      clear hsl
      obtain ⟨wo, rfl⟩ : ∃ wo : World, wo = wr := ⟨_, rfl⟩
      go_wp2
      go_loopw [7, 8] (fun kp t wr => ∃ j : Nat, j ≤ m ∧ t = .int .i64 j ∧ kp = .bool (!(names.take j).any (isB (nm, vl))) ∧ Below wo.heap.size wo wr) (fun _ t _ => m - (intOf t).toNat)
      case atStart => exact ⟨0, by omega, rfl, by simp, Below.refl _ _⟩
      case round =>
        obtain ⟨j, hj, rfl, rfl, hbi⟩ := hrel
        by_cases hjt : j < m
        · obtain ⟨g', o', s, rfl, hg', HY, hd⟩ := ((hr.step hbr).step hbi).at_ hjt
          have hss : s.length ≤ 140737488355328 := hns _ (mem_of_get? HY.out)
          have HA : Hid ((names.take (j + 1)).any (isB (nm, vl)) = ((names.take j).any (isB (nm, vl)) || isB (nm, vl) s)) := Lib.hid (any_snoc HY.out)
          have hci : wr.cell? ⟨g, o + k * 2, none⟩ = some (.string (bs nm)) := (hbi.cell (p := ⟨g, o + k * 2, none⟩) hg).trans hc1
          clear hl hr hls hns hc1 hc2
          go_wp2
          go_region_held3 (fun w' => w'.cell? ⟨g, o + k * 2, none⟩ = some (.string (bs nm)) ∧ w'.cell? ⟨g', o' + j, none⟩ = some (.string (bs s)) ∧ Below wr.heap.size wr w')
            ((first | exact ⟨hci, hd, (Below.refl _ _).drew⟩ | (apply keep2 <;> assumption)))
            ((go_at_call 46; refine (lower_any _ _ (by assumption)).mono ?_; rintro e w1 ⟨rfl, hb1⟩))
          all_goals
            have hS : Below wr.heap.size wr w1 := by have h : w1.cell? ⟨g, o + k * 2, none⟩ = some (.string (bs nm)) ∧ w1.cell? ⟨g', o' + j, none⟩ = some (.string (bs s)) ∧ Below wr.heap.size wr w1 := by assumption
                                                     exact h.2.2
            have hS2 := bnext hbi hS hbi.size
            go_wp2
            · have hib : isB (nm, vl) s = true := by unfold isB; assumption
              go_roundw
              case rel => exact ⟨j + 1, by omega, by go_num, by rw [HA.out, hib, Bool.or_true]; rfl, hS2⟩
              case measure => simp [intOf]; omega
            · have hib : isB (nm, vl) s = false := by unfold isB; assumption
              go_roundw
              case rel => exact ⟨j + 1, by omega, by go_num, by rw [HA.out, hib, Bool.or_false], hS2⟩
              case measure => simp [intOf]; omega
        · obtain rfl : j = m := by omega
          rw [HM.out]
          have hown2 := hown.step hbi
          have hbr2 := bnext hbr hbi hbr.size
          have hci1 : wr.cell? ⟨g, o + k * 2, none⟩ = some (.string (bs nm)) := (hbi.cell (p := ⟨g, o + k * 2, none⟩) hg).trans hc1
          have hci2 : wr.cell? ⟨g, o + k * 2 + 1, none⟩ = some (.string (bs vl)) := (hbi.cell (p := ⟨g, o + k * 2 + 1, none⟩) hg).trans hc2
          have HL : Hid (((l.take k).filter fun f => !(names.any (isB f))).length ≤ k) := Lib.hid (by have := List.length_filter_le (fun f => !(names.any (isB f))) (l.take k); simp at this; omega)
          have HT := Lib.hid (filter_snoc (f := fun f => !(names.any (isB f))) HX.out)
          clear hl hr hls hns hc1 hc2
          cases hny : names.any (isB (nm, vl))
          · have HNY := Lib.hid hny
            clear hny
            go_wp2_with
              (at_builtin
               refine wp_appF rfl (.tmp 35) (.tmp 40) rfl w.heap.size (.slice A' n' c') _ rfl (hown2.step (alloc_below _ _)) _ 1 1 [(nm, vl)] rfl (one_rdF _ _ _ _) ?hby ?hbase ?_
               case hby => have := HL.out; omega
               case hbase => have := hbr2.size; simp; omega
               intro A1 n1 c1 w1 hown1 hb1 hn1)
            go_roundw
            case rel => exact ⟨k + 1, A1, n1, c1, by omega, by go_num, rfl, by rw [HT.out]; simp only [HNY.out, Bool.not_false, if_true]; exact hown1, (bnext hbr2 (alloc_below _ _) hbr2.size).trans hb1⟩
            case measure => simp [intOf]; omega
          · have HNY := Lib.hid hny
            clear hny
            go_wp2
            go_roundw
            case rel => exact ⟨k + 1, A', n', c', by omega, by go_num, rfl, by rw [HT.out]; simp only [HNY.out, Bool.not_true, Bool.false_eq_true, if_false, List.append_nil]; exact hown2, hbr2⟩
            case measure => simp [intOf]; omega
    · obtain rfl : k = n := by omega
      go_wp2
      go_ret
      exact ⟨A', n', c', rfl, by rw [← HF.out]; exact hown, hbr⟩
end Go.Proofs.YtbigcdmkfcmegaaGreatDoor
set_option linter.unusedVariables false
set_option linter.unusedSimpArgs false
namespace Go.Proofs.YtbigcdmkfcmegaaGreatDoor
open Go.RowKit

set_option maxHeartbeats 400000 in
theorem copyFields_own (A : Option Addr) (n c : Nat) (l : List Fld) (w : World) (hl : RdF w A n l) (hn : n * 32 ≤ 140737488355328) :
    Calls Tryz.prog 15 #[.slice A n c] w fun e w' => ∃ A' n' c', e = .returned (.slice A' n' c') ∧ OwnF w' w.heap.size (.slice A' n' c') l ∧ Below w.heap.size w w' := by
  go_enter Tryz.func15, Tryz.ntmps15
  go_wp2_with
    (at_builtin
     refine wp_appF rfl (.tmp 5) (.tmp 6) rfl w.heap.size (.slice (some ⟨w.heap.size, 0, none⟩) 0 0) [] rfl (OwnF.made w) A n c l rfl ?hr ?hby ?hbase ?_
     case hr => exact hl.step (alloc_below _ _)
     case hby => simp; omega
     case hbase => simp
     intro A1 n1 c1 w1 hown1 hb1 hn1)
  go_ret
  exact ⟨A1, n1, c1, rfl, hown1, (alloc_below _ _).trans hb1⟩
theorem copyFields_any (A : Option Addr) (n c : Nat) (l : List Fld) (w : World) (hl : RdF w A n l) (hn : n * 32 ≤ 140737488355328) :
    Calls Tryz.prog 15 #[.slice A n c] w fun e w' => FldsOut w l e w' :=
  (copyFields_own A n c l w hl hn).mono fun e w' ⟨A', n', c', he, ho, hb⟩ => ⟨A', n', c', he, ho.rd, hb⟩
end Go.Proofs.YtbigcdmkfcmegaaGreatDoor
set_option linter.unusedVariables false
set_option linter.unusedSimpArgs false
namespace Go.Proofs.YtbigcdmkfcmegaaGreatDoor
open Go.RowKit

theorem fld_cells : (Tryz.prog.fieldsOf 37).toList.map (fun f => (f.name, f.type, f.offset)) = [("Name", 9, 0), ("Value", 9, 1)] := by kernel_rfl
theorem neq_fld (x1 x2 y1 y2 : List UInt8) (w : World) : (binOp .neq 37 (.agg #[.string (bs x1), .string (bs x2)]) (.agg #[.string (bs y1), .string (bs y2)])).run Tryz.prog w = .ok (.bool (!((x1 == y1) && (x2 == y2)))) w := by
  rw [run_neq_struct]
  have hs := run_equalIn_struct (P := Tryz.prog) w 9999 37 #[.string (bs x1), .string (bs x2)] #[.string (bs y1), .string (bs y2)] (by kernel_rfl) (by kernel_rfl)
  rw [hs]
  have hf := fld_cells
  match h : (Tryz.prog.fieldsOf 37).toList with
  | [] => rw [h] at hf; simp at hf
  | [_] => rw [h] at hf; simp at hf
  | [f, g] =>
    rw [h] at hf
    simp at hf
    obtain ⟨⟨f1, f2, f3⟩, g1, g2, g3⟩ := hf
    simp [Op.eqFields, f1, f2, f3, g1, g2, g3, go_sem, Tryz.underlying9]
    by_cases e1 : x1 = y1 <;> by_cases e2 : x2 = y2 <;> simp [e1, e2]
  | _ :: _ :: _ :: _ => rw [h] at hf; simp at hf
theorem eqg_fld (w : World) (x y : Operand) (xs ys : Array Value) : (eqGuard .neq 37 x y (.agg xs) (.agg ys)).run Tryz.prog w = .ok () w := run_eqGuard_agg w _ _ _ _ _ _ (by kernel_rfl)
end Go.Proofs.YtbigcdmkfcmegaaGreatDoor
set_option linter.unusedVariables false
set_option linter.unusedSimpArgs false
namespace Go.Proofs.YtbigcdmkfcmegaaGreatDoor
open Go.RowKit

set_option maxHeartbeats 400000 in
theorem sameFields_any (A B : Option Addr) (n m c d : Nat) (l r : List Fld) (w : World) (hl : RdF w A n l) (hr : RdF w B m r) (hn : n ≤ 140737488355328) (hm : m ≤ 140737488355328) :
    Calls Tryz.prog 9 #[.slice A n c, .slice B m d] w fun e w' => e = .returned (.bool (l == r)) ∧ Below w.heap.size w w' := by
  by_cases hnm : n = m
  case neg =>
    have HF : Hid ((l == r) = false) := Lib.hid (by rw [beq_eq_false_iff_ne]; intro h; apply hnm; rw [← hl.1, ← hr.1, h])
    have hnm' : ((n : Int) != (m : Int)) = true := by simp; omega
    go_enter Tryz.func9, Tryz.ntmps9
    go_wp2
    go_ret
    exact ⟨ret_bool HF.out.symm, Below.refl _ _⟩
  subst hnm
  have HN : Hid (∀ k : Nat, ∀ x y : Fld, l[k]? = some x → r[k]? = some y → x ≠ y → (l == r) = false) := Lib.hid fun k x y h1 h2 hne => by
    rw [beq_eq_false_iff_ne]; intro h; subst h; rw [h1] at h2; exact hne (Option.some.inj h2)
  have HT : Hid (l.take n = r.take n → (l == r) = true) := Lib.hid fun h => by
    rw [List.take_of_length_le (by rw [hl.1]; exact Nat.le_refl _), List.take_of_length_le (by rw [hr.1]; exact Nat.le_refl _)] at h; simpa using h
  go_enter Tryz.func9, Tryz.ntmps9
  go_wp2
  go_loopw [5] (fun t wr => ∃ k : Nat, k ≤ n ∧ t = .int .i64 k ∧ l.take k = r.take k ∧ Below w.heap.size w wr) (fun t _ => n - (intOf t).toNat)
  case atStart => exact ⟨0, by omega, rfl, rfl, Below.refl _ _⟩
  case round =>
    obtain ⟨k, hk, rfl, hall, hbr⟩ := hrel
    have HA := Lib.hid hall
    clear hall
    by_cases hlt : k < n
    · obtain ⟨g, o, x1, x2, rfl, hg, HX, hc1, hc2⟩ := (hl.step hbr).at_ hlt
      obtain ⟨g', o', y1, y2, rfl, hg', HY, hd1, hd2⟩ := (hr.step hbr).at_ hlt
      clear hl hr
      have HS : Hid ((x1, x2) = (y1, y2) → l.take (k + 1) = r.take (k + 1)) := Lib.hid fun h => by rw [take_snoc? HX.out, take_snoc? HY.out, HA.out, h]
      have HF : Hid ((x1, x2) ≠ (y1, y2) → (l == r) = false) := Lib.hid fun h => HN.out k _ _ HX.out HY.out h
      have hq := neq_fld x1 x2 y1 y2
      have hgd := eqg_fld
      go_wp2
      go_quiet (fail)
      go_wp2
      · have hne : (x1, x2) ≠ (y1, y2) := by rintro ⟨⟩; simp_all
        go_ret
        exact ⟨ret_bool (HF.out hne).symm, below_drewN hbr _⟩
      · have he : (x1, x2) = (y1, y2) := by simp_all
        go_roundw
        case rel => exact ⟨k + 1, by omega, by go_num, HS.out he, below_drewN hbr _⟩
        case measure => simp [intOf]; omega
    · obtain rfl : k = n := by omega
      go_wp2
      go_ret
      exact ⟨ret_bool (HT.out HA.out).symm, hbr⟩
end Go.Proofs.YtbigcdmkfcmegaaGreatDoor
