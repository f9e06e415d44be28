/- tok.Fold: letters A to Z made small. Conditions: the length at most 2^46. -/
import Derived.Test.YtfhkgbimnfjfhaaDoorChecked
import Derived.Test.YtfhkgbimnfjfhaaDoorStr
import Derived.Test.YtfhkgbimnfjfhaaDoorMem
import Derived.Test.YtfhkgbimnfjfhaaDoorByt
import Derived.Deep.Cut
import Derived.Deep.DeepCutAuto
set_option linter.unusedVariables false
set_option linter.unusedSimpArgs false
namespace Go.Proofs.YtfhkgbimnfjfhaaDoor
open Go.RowKit

def low (c : UInt8) : UInt8 := if 65 ≤ c.toNat ∧ c.toNat ≤ 90 then c + 32 else c
def fold (s : List UInt8) : List UInt8 := s.map low
theorem fold_length (s : List UInt8) : (fold s).length = s.length := by simp [fold]
theorem low_yes {c : UInt8} (h1 : 65 ≤ c.toNat) (h2 : c.toNat ≤ 90) : (low c).toNat = c.toNat + 32 := by
  unfold low; rw [if_pos ⟨h1, h2⟩, UInt8.toNat_add]; simp; omega
theorem low_no {c : UInt8} (h : ¬ (65 ≤ c.toNat ∧ c.toNat ≤ 90)) : low c = c := by unfold low; rw [if_neg h]
/-- Half way: k letters are done. -/
def foldTo (k : Nat) (s : List UInt8) : List UInt8 := (s.take k).map low ++ s.drop k
theorem foldTo_zero (s : List UInt8) : foldTo 0 s = s := by simp [foldTo]
theorem foldTo_all (s : List UInt8) (k : Nat) (h : s.length ≤ k) : foldTo k s = fold s := by simp [foldTo, fold, List.take_of_length_le h, List.drop_eq_nil_of_le h]
theorem foldTo_length (s : List UInt8) (k : Nat) : (foldTo k s).length = s.length := by simp [foldTo]; omega
theorem foldTo_at (s : List UInt8) (k : Nat) (h : k < s.length) : (foldTo k s)[k]? = some s[k] := by
  unfold foldTo
  rw [List.getElem?_append_right (by simp; omega)]
  simp [Nat.min_eq_left (Nat.le_of_lt h), h]
theorem foldTo_set (s : List UInt8) (k : Nat) (h : k < s.length) : (foldTo k s).set k (low s[k]) = foldTo (k + 1) s := by
  unfold foldTo
  rw [List.set_append_right _ _ (by simp; omega)]
  simp only [List.length_map, List.length_take, Nat.min_eq_left (Nat.le_of_lt h), Nat.sub_self]
  have hd : s.drop k = s[k] :: s.drop (k + 1) := List.drop_eq_getElem_cons h
  rw [take_snoc s k h, List.map_append, hd, List.append_assoc]
  rfl
theorem foldTo_skip (s : List UInt8) (k : Nat) (h : k < s.length) (hl : low s[k] = s[k]) : foldTo (k + 1) s = foldTo k s := by
  rw [← foldTo_set s k h, hl]
  obtain ⟨h1, h2⟩ := List.getElem?_eq_some_iff.1 (foldTo_at s k h)
  rw [← h2]
  exact List.set_getElem_self h1

set_option maxHeartbeats 400000 in
theorem fold_any (s : List UInt8) (w : World) (hs : s.length ≤ 140737488355328) :
    Calls Tryd.prog 31 #[.string (bs s)] w fun e w' => e = .returned (.string (bs (fold s))) ∧ Below w.heap.size w w' := by
  have hcv := conv_sb
  have HL : Hid ((fold s).length = s.length) := fold_length s
  go_enter Tryd.func31, Tryd.ntmps31
  go_upto_region 2 with fail
  clear hcv
  have hrow := bytesWorld_row w 5 s
  have hbel := bytesWorld_below w 5 (bs s)
  have hsz : w.heap.size < (Lib.bytesWorld w 5 (bs s)).heap.size := by rw [Lib.bytesWorld_size]; omega
  generalize Lib.bytesWorld w 5 (bs s) = w0 at *
  generalize grownCap w s.length 0 5 = cp at *
  go_wp2
  go_loopw [10] (fun t wr => ∃ k : Nat, k ≤ s.length ∧ t = .int .i64 k ∧ RowB wr w.heap.size 0 (foldTo k s) ∧ Below w.heap.size w wr ∧ w.heap.size < wr.heap.size) (fun t _ => s.length - (intOf t).toNat)
  case atStart => exact ⟨0, by omega, rfl, by rw [foldTo_zero]; exact hrow, hbel, hsz⟩
  case round =>
    obtain ⟨k, hk, rfl, hrw, hbr, hszr⟩ := hrel
    clear hrow hbel hsz
    by_cases hlt : k < s.length
    · have hcell := (hrw k _ (foldTo_at s k hlt)).1
      have hfz := (hrw k _ (foldTo_at s k hlt)).2
      simp only [Nat.zero_add] at hcell hfz
      have hc255 : (s[k].toNat : Int) ≤ 255 := by have := s[k].toNat_lt; omega
      by_cases hup : 65 ≤ s[k].toNat ∧ s[k].toNat ≤ 90
      · obtain ⟨hu1, hu2⟩ := hup
        have HS : Hid ((s[k].toNat : Int) + 97 - 65 = ((low s[k]).toNat : Int)) := Lib.hid (by rw [low_yes hu1 hu2]; omega)
        have HR := Lib.hid (hrw.set k (low s[k]))
        have HT := Lib.hid (foldTo_set s k hlt)
        go_wp2
        go_roundw
        case rel => exact ⟨k + 1, by omega, by go_num, by rw [HS.out, ← HT.out]; have h := HR.out; rwa [Nat.zero_add] at h, hbr.setCell (p := ⟨w.heap.size, k, none⟩) (Nat.le_refl _) _, by simpa [World.setCell] using hszr⟩
        case measure => simp [intOf]; omega
      · have HT := Lib.hid (foldTo_skip s k hlt (low_no hup))
        go_wp2
        all_goals
          go_roundw
          case rel => exact ⟨k + 1, by omega, by go_num, by rw [HT.out]; exact hrw, hbr, hszr⟩
          case measure => simp [intOf]; omega
    · obtain rfl : k = s.length := by omega
      go_upto_region 8 with fail
      have hcb := conv_bs (w := wr) (A := some ⟨w.heap.size, 0, none⟩) (n := s.length) (l := fold s) (by rw [← foldTo_all s _ (Nat.le_refl _)]; have := hrw.rd hszr; rwa [foldTo_length] at this)
      go_wp2
      go_ret
      exact ⟨rfl, hbr⟩
end Go.Proofs.YtfhkgbimnfjfhaaDoor
