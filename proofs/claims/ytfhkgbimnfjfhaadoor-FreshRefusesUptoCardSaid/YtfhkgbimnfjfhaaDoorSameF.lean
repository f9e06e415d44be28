/- SameFields: equal lists. Conditions: lengths at most 2^47. -/
import Derived.Test.YtfhkgbimnfjfhaaDoorChecked
import Derived.Test.YtfhkgbimnfjfhaaDoorStr
import Derived.Test.YtfhkgbimnfjfhaaDoorMem
import Derived.Test.YtfhkgbimnfjfhaaDoorFld
import Derived.Deep.QuietTactic
import Derived.BigQuiet
import Derived.Deep.Cut
import Derived.Deep.DeepCutAuto
set_option linter.unusedVariables false
set_option linter.unusedSimpArgs false
namespace Go.Proofs.YtfhkgbimnfjfhaaDoor
open Go.RowKit

set_option maxHeartbeats 400000 in
theorem sameFields_any (A B : Option Addr) (n m c d : Nat) (l r : List Fld) (w : World) (hl : RdF w A n l) (hr : RdF w B m r) (hn : n ≤ 140737488355328) (hm : m ≤ 140737488355328) :
    Calls Tryd.prog 21 #[.slice A n c, .slice B m d] w fun e w' => e = .returned (.bool (l == r)) ∧ Below w.heap.size w w' := by
  by_cases hnm : n = m
  case neg =>
    have HF : Hid ((l == r) = false) := Lib.hid (by rw [beq_eq_false_iff_ne]; intro h; apply hnm; rw [← hl.1, ← hr.1, h])
    have hnm' : ((n : Int) != (m : Int)) = true := by simp; omega
    go_enter Tryd.func21, Tryd.ntmps21
    go_wp2
    go_ret
    exact ⟨ret_bool HF.out.symm, Below.refl _ _⟩
  subst hnm
  have HN : Hid (∀ k : Nat, ∀ x y : Fld, l[k]? = some x → r[k]? = some y → x ≠ y → (l == r) = false) := Lib.hid fun k x y h1 h2 hne => by
    rw [beq_eq_false_iff_ne]; intro h; subst h; rw [h1] at h2; exact hne (Option.some.inj h2)
  have HT : Hid (l.take n = r.take n → (l == r) = true) := Lib.hid fun h => by
    rw [List.take_of_length_le (by rw [hl.1]; exact Nat.le_refl _), List.take_of_length_le (by rw [hr.1]; exact Nat.le_refl _)] at h; simpa using h
  go_enter Tryd.func21, Tryd.ntmps21
  go_wp2
  go_loopw [5] (fun t wr => ∃ k : Nat, k ≤ n ∧ t = .int .i64 k ∧ l.take k = r.take k ∧ Below w.heap.size w wr) (fun t _ => n - (intOf t).toNat)
  case atStart => exact ⟨0, by omega, rfl, rfl, Below.refl _ _⟩
  case round =>
    obtain ⟨k, hk, rfl, hall, hbr⟩ := hrel
    have HA := Lib.hid hall
    clear hall
    by_cases hlt : k < n
    · obtain ⟨g, o, x1, x2, rfl, hg, HX, hc1, hc2⟩ := (hl.step hbr).at_ hlt
      obtain ⟨g', o', y1, y2, rfl, hg', HY, hd1, hd2⟩ := (hr.step hbr).at_ hlt
      clear hl hr
      have HS : Hid ((x1, x2) = (y1, y2) → l.take (k + 1) = r.take (k + 1)) := Lib.hid fun h => by rw [take_snoc? HX.out, take_snoc? HY.out, HA.out, h]
      have HF : Hid ((x1, x2) ≠ (y1, y2) → (l == r) = false) := Lib.hid fun h => HN.out k _ _ HX.out HY.out h
      have hq := neq_fld x1 x2 y1 y2
      have hgd := eqg_fld
      go_wp2
      go_quiet (fail)
      go_wp2
      · have hne : (x1, x2) ≠ (y1, y2) := by rintro ⟨⟩; simp_all
        go_ret
        exact ⟨ret_bool (HF.out hne).symm, below_drewN hbr _⟩
      · have he : (x1, x2) = (y1, y2) := by simp_all
        go_roundw
        case rel => exact ⟨k + 1, by omega, by go_num, HS.out he, below_drewN hbr _⟩
        case measure => simp [intOf]; omega
    · obtain rfl : k = n := by omega
      go_wp2
      go_ret
      exact ⟨ret_bool (HT.out HA.out).symm, hbr⟩
end Go.Proofs.YtfhkgbimnfjfhaaDoor
