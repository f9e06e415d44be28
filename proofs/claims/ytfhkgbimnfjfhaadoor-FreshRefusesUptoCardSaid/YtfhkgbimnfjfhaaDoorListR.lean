/- The reference's List: the elements of a list. Conditions: the length at most 2^40. -/
import Derived.Test.YtfhkgbimnfjfhaaDoorLists
set_option linter.unusedVariables false
set_option linter.unusedSimpArgs false
namespace Go.Proofs.YtfhkgbimnfjfhaaDoor
open Go.RowKit

set_option maxHeartbeats 1000000 in
theorem listR_own (s : List UInt8) (w : World) (hs : s.length ≤ 1099511627776) :
    Calls Tryd.prog 48 #[.string (bs s)] w fun e w' => ∃ A' n' c', e = .returned (.slice A' n' c') ∧ OwnS w' w.heap.size (.slice A' n' c') (listL s) ∧ Below w.heap.size w w' := by
  have HL : Hid ((splitL 44 s).length ≤ s.length + 1) := Lib.hid (split_len 44 s)
  have HE : Hid (∀ (k : Nat) x, (splitL 44 s)[k]? = some x → x.length ≤ s.length) := Lib.hid fun k x h => split_each 44 s h
  have HF : Hid (∀ l, l = splitL 44 s → keepE (l.map trimL) = listL s) := Lib.hid (fun l h => by rw [h]; rfl)
  go_enter Tryd.func48, Tryd.ntmps48
  go_wp2_with fail
  refine (pieces_own s 44 w hs).mono ?_
  rintro e w1 ⟨A, n, c, rfl, hS, hb1⟩
  have hrd := hS.rd
  clear hS
  generalize splitL 44 s = L at *
  have HF2 : Hid (keepE ((L.take n).map trimL) = listL s) := Lib.hid (by rw [List.take_of_length_le (by rw [hrd.1]; exact Nat.le_refl _)]; exact HF.out L rfl)
  have hnl : n ≤ s.length + 1 := by have := HL.out; rw [hrd.1] at this; exact this
  clear HF HL
  go_upto_region 3 with fail
  have hm := OwnS.made w1
  have hbm := alloc_below w1 (.cells #[] 9)
  go_wp2
  go_loopw [4, 5] (fun v t wr => ∃ (k : Nat) (A' : Option Addr) (n' c' : Nat), k ≤ n ∧ t = .int .i64 k ∧ v = .slice A' n' c' ∧ OwnS wr w1.heap.size (.slice A' n' c') (keepE ((L.take k).map trimL)) ∧ Below w1.heap.size w1 wr) (fun _ t _ => n - (intOf t).toNat)
  case atStart => exact ⟨0, _, _, _, by omega, rfl, rfl, hm, hbm⟩
  case round =>
    obtain ⟨k, A', n', c', hk, rfl, rfl, hown, hbr⟩ := hrel
    clear hm hbm
    by_cases hlt : k < n
    · obtain ⟨g, o, x, rfl, hg, HX, hc1⟩ := (hrd.step hbr).at_ hlt
      have hxl := HE.out k x HX.out
      have HS : Hid (keepE ((L.take (k + 1)).map trimL) = keepE ((L.take k).map trimL) ++ (if (!(trimL x).isEmpty) = true then [trimL x] else [])) := Lib.hid (by
        rw [take_snoc? HX.out, List.map_append]; unfold keepE; rw [List.filter_append]; simp only [List.map_cons, List.map_nil, List.filter_cons, List.filter_nil])
      have HK : Hid ((keepE ((L.take k).map trimL)).length ≤ k) := Lib.hid (by have := keepE_le ((L.take k).map trimL); rw [List.length_map, List.length_take] at this; omega)
      clear hrd HE
      go_wp2_with fail
      refine (trimR_any x _ (by omega)).mono ?_
      rintro e w2 ⟨rfl, rfl⟩
      generalize trimL x = y at *
      cases hx : (!y.isEmpty)
      · have HX2 := Lib.hid hx
        go_wp2
        go_roundw
        case rel => exact ⟨k + 1, A', n', c', by omega, by go_num, rfl, by rw [HS.out]; simp only [HX2.out, Bool.false_eq_true, if_false, List.append_nil]; exact hown, hbr⟩
        case measure => simp [intOf]; omega
      · have HX2 := Lib.hid hx
        go_wp2_with
          (at_builtin
           refine wp_appS rfl (.tmp 23) (.tmp 25) rfl w1.heap.size (.slice A' n' c') _ rfl (hown.step (alloc_below _ _)) _ 1 1 [y] rfl ?hr ?hby ?hbase ?_
           case hr => exact one_rdS' _ _ _ _ (by simp)
           case hby => have := HK.out; omega
           case hbase => have := hbr.size; simp; omega
           intro A3 n3 c3 w3 hown3 hb3 hn3)
        go_roundw
        case rel => exact ⟨k + 1, A3, n3, c3, by omega, by go_num, rfl, by rw [HS.out]; simp only [HX2.out, if_true]; exact hown3, (bnext hbr (alloc_below _ _) hbr.size).trans hb3⟩
        case measure => simp [intOf]; omega
    · obtain rfl : k = n := by omega
      go_wp2
      go_ret
      exact ⟨A', n', c', rfl, by rw [← HF2.out]; exact hown.mono hb1.size, bnext hb1 hbr hb1.size⟩
end Go.Proofs.YtfhkgbimnfjfhaaDoor
