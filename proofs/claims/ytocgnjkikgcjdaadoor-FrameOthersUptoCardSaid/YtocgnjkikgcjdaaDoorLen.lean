/- frame.length: the number that all elements tell, or the error. Conditions: at most 2^20 values of at most 2^20 bytes. -/
import Derived.Test.YtocgnjkikgcjdaaDoorNum
import Derived.Test.YtocgnjkikgcjdaaDoorTokens
set_option linter.unusedVariables false
set_option linter.unusedSimpArgs false
namespace Go.Proofs.YtocgnjkikgcjdaaDoor
open Go.RowKit

theorem trimDig_any (s : List UInt8) (w : World) (hs : s.length ≤ 140737488355328) :
    Calls Tryd.prog 46 #[.string (bs s), .string (bs digS)] w fun e w' => e = .returned (.string (bs (Lib.trimS s digS))) ∧ Below w.heap.size w w' :=
  Tryd.strings_Trim_set (bs s) (bs digS) w (by simp; omega) (by decide) (ascii_of_all (by decide))
def lenV (V : List (List UInt8)) : Value := .tuple #[.int .i64 (lenL (elemsV V)).1, .int .i64 (lenL (elemsV V)).2]
theorem lenV_of {V : List (List UInt8)} {a b : Int} (h : lenL (elemsV V) = (a, b)) : lenV V = .tuple #[.int .i64 a, .int .i64 b] := by unfold lenV; rw [h]

set_option maxHeartbeats 2000000 in
theorem length_any (A : Option Addr) (n c : Nat) (V : List (List UInt8)) (w : World) (hV : RdS w A n V) (hn : n ≤ 1048576) (hVl : ∀ v ∈ V, v.length ≤ 1048576) :
    Calls Tryd.prog 38 #[.slice A n c] w fun e w' => e = .returned (lenV V) ∧ Below w.heap.size w w' := by
  have HN : Hid (V.take n = V) := Lib.hid (List.take_of_length_le (by rw [hV.1]; exact Nat.le_refl _))
  have HD : Hid (digS = [48, 49, 50, 51, 52, 53, 54, 55, 56, 57]) := Lib.hid rfl
  have HVE : Hid (∀ a b : Int, lenL (elemsV V) = (a, b) → lenV V = .tuple #[.int .i64 a, .int .i64 b]) := Lib.hid fun a b h => lenV_of h
  generalize lenV V = LV at *
  go_enter Tryd.func38, Tryd.ntmps38
  go_wp2
  go_loopw [4, 13] (fun v t wr => ∃ (k : Nat) (sv : Int), k ≤ n ∧ t = .int .i64 k ∧ v = .int .i64 sv ∧ -1 ≤ sv ∧ sv < 1000000000000000000 ∧ Hid (toldL (elemsV (V.take k)) sv) ∧ Below w.heap.size w wr) (fun _ t _ => n - (intOf t).toNat)
  case atStart => exact ⟨0, -1, by omega, rfl, rfl, by omega, by omega, Lib.hid (.inl ⟨rfl, rfl⟩), Below.refl _ _⟩
  case round =>
    obtain ⟨k, sv, hk, rfl, rfl, hs1, hs2, HT, hbr⟩ := hrel
    by_cases hlt : k < n
    · obtain ⟨g, o, x, rfl, hg, HX, hc1⟩ := (hV.step hbr).at_ hlt
      have hxl : x.length ≤ 1048576 := hVl x (mem_of_get? HX.out)
      have HS := Lib.hid (elemsV_snoc HX.out)
      have HE : Hid (∀ (j : Nat) y, (listL x)[j]? = some y → y.length ≤ x.length ∧ y ≠ [] ∧ y ∈ elemsV V) := Lib.hid fun j y h => ⟨list_each x (mem_of_get? h), listL_ne h, elemsV_mem HX.out h⟩
      have HEl := Lib.hid (list_len x)
      go_wp2_with fail
      refine (list_own x _ (by omega)).mono ?_
      rintro e wl ⟨A2, n2, c2, rfl, hE, hbl⟩
      have hEr := hE.rd
      have hbl2 := bnext hbr hbl hbr.size
      clear hE
      generalize listL x = E at *
      have hn2 : n2 ≤ 1048577 := by have := HEl.out; rw [hEr.1] at this; omega
      have HTE : Hid (E.take n2 = E) := Lib.hid (List.take_of_length_le (by rw [hEr.1]; exact Nat.le_refl _))
      have HT0 : Hid (toldL (elemsV (V.take k) ++ E.take 0) sv) := Lib.hid (by simpa using HT.out)
      clear hbl hbr hV hc1 HEl HT
      obtain ⟨wo, rfl⟩ : ∃ wo, wo = wr := ⟨_, rfl⟩
      go_wp2
      go_loopw [4, 20] (fun v t wr => ∃ (j : Nat) (sv : Int), j ≤ n2 ∧ t = .int .i64 j ∧ v = .int .i64 sv ∧ -1 ≤ sv ∧ sv < 1000000000000000000 ∧ Hid (toldL (elemsV (V.take k) ++ E.take j) sv) ∧ RdS wr A2 n2 E ∧ Below w.heap.size w wr) (fun _ t _ => n2 - (intOf t).toNat)
      case atStart => exact ⟨0, sv, by omega, rfl, rfl, hs1, hs2, HT0, hEr, hbl2⟩
      case round =>
        obtain ⟨j, sv, hj, rfl, rfl, hs1, hs2, HT, hEr, hbr⟩ := hrel
        clear HT0
        by_cases hlj : j < n2
        · obtain ⟨g2, o2, y, rfl, hg2, HY, hd1⟩ := hEr.at_ hlj
          have hyy := HE.out j y HY.out
          have hyl : y.length ≤ 1048576 := by omega
          have HYn := Lib.hid hyy.2.1
          have HYm := Lib.hid hyy.2.2
          have HB : Hid (numL y < 0 → LV = .tuple #[.int .i64 0, .int .i64 60]) := Lib.hid fun h => HVE.out 0 60 (lenL_bad HYm.out h)
          have HU : Hid (0 ≤ sv → numL y ≠ sv → LV = .tuple #[.int .i64 0, .int .i64 60]) := Lib.hid fun h h2 => by
            obtain ⟨z, hz, e⟩ := toldL_mem HT.out h
            refine HVE.out 0 60 (lenL_unlike HYm.out (z := z) ?_ (by rw [e]; exact h2))
            rcases List.mem_append.1 hz with hz | hz
            · exact elemsV_take hz
            · obtain ⟨i, hi, e2⟩ := List.getElem_of_mem (List.mem_of_mem_take hz)
              exact (HE.out i z (by rw [← e2]; exact List.getElem?_eq_getElem hi)).2.2
          have HA : Hid (0 ≤ numL y → (sv < 0 ∨ sv = numL y) → toldL (elemsV (V.take k) ++ E.take (j + 1)) (numL y)) := Lib.hid fun h h2 => by
            rw [take_snoc? HY.out, ← List.append_assoc]; exact toldL_snoc HT.out h h2
          clear hyy
          by_cases hlen : 18 < y.length
          · have HR := Lib.hid (HB.out (by rw [numL_bad_len hlen]; omega))
            go_wp2
            go_ret2
            exact ⟨by rw [HR.out]; rfl, hbr⟩
          · have hT := trimDig_any y
            rw [HD.out] at hT
            have HP1 : Hid (y.all digB = false → (Lib.trimS y [48, 49, 50, 51, 52, 53, 54, 55, 56, 57]).isEmpty = false) := Lib.hid fun h => by
              rw [← HD.out]; have := trimDig_some h; cases hp : Lib.trimS y digS with
              | nil => exact absurd hp this
              | cons _ _ => rfl
            have HP2 : Hid (y.all digB = true → (Lib.trimS y [48, 49, 50, 51, 52, 53, 54, 55, 56, 57]).isEmpty = true) := Lib.hid fun h => by
              rw [← HD.out, trimDig_nil h]; rfl
            go_wp2_with fail
            refine (hT _ (by omega)).mono ?_
            rintro e w3 ⟨rfl, hb3⟩
            have hEr3 := hEr.step hb3
            have hbr3 := bnext hbr hb3 hbr.size
            generalize Lib.trimS y [48, 49, 50, 51, 52, 53, 54, 55, 56, 57] = p at *
            clear hEr hbr hb3 hT hd1
            cases hdg : y.all digB
            · have hp := HP1.out hdg
              have HR := Lib.hid (HB.out (by rw [numL_bad hdg]; omega))
              clear hdg
              go_wp2
              go_ret2
              exact ⟨by rw [HR.out]; rfl, hbr3⟩
            · have hp : p = [] := by simpa using HP2.out hdg
              subst hp
              have HDG := Lib.hid hdg
              clear hdg
              go_wp2_with fail
              obtain ⟨m0, hm, hm2, hdf, hat⟩ := numL_good HDG.out HYn.out (by omega)
              have HAt := Lib.hid hat
              rw [hm] at HU HA
              have hm3 : (m0 : Int) < 1000000000000000000 := by omega
              have hm4 : 0 ≤ (m0 : Int) := by omega
              clear HB hm hm2 hdf hat
              generalize (m0 : Int) = m at *
              refine (Tryd.strconv_Atoi (bs y) m (by simp; omega) HAt.out _).mono ?_
              rintro e w4 ⟨rfl, tt, rfl⟩
              have hb4 := bytesWorld_below w3 5 tt
              have hEr4 := hEr3.step hb4
              have hbr4 := bnext hbr3 hb4 hbr3.size
              generalize Lib.bytesWorld w3 5 tt = w4 at *
              clear hb4 hEr3 hbr3
              by_cases hsn : sv < 0
              · have HA2 := Lib.hid (HA.out (by omega) (.inl hsn))
                go_wp2
                go_roundw
                case rel => exact ⟨j + 1, m, by omega, by go_num, rfl, by omega, hm3, HA2, hEr4, hbr4⟩
                case measure => simp [intOf]; omega
              · by_cases heq : sv = m
                · have HA2 := Lib.hid (HA.out (by omega) (.inr heq))
                  subst heq
                  go_wp2
                  go_roundw
                  case rel => exact ⟨j + 1, sv, by omega, by go_num, rfl, by omega, hm3, HA2, hEr4, hbr4⟩
                  case measure => simp [intOf]; omega
                · have HR := Lib.hid (HU.out (by omega) (fun h => heq h.symm))
                  have hne : (sv != m) = true := by simp [heq]
                  go_wp2
                  go_ret2
                  exact ⟨by rw [HR.out]; rfl, hbr4⟩
        · obtain rfl : j = n2 := by omega
          have HT2 : Hid (toldL (elemsV (V.take (k + 1))) sv) := Lib.hid (by rw [HS.out, ← HTE.out]; rw [HTE.out]; have := HT.out; rw [HTE.out] at this; exact this)
          go_wp2
          go_roundw
          case rel => exact ⟨k + 1, sv, by omega, by go_num, rfl, hs1, hs2, HT2, hbr⟩
          case measure => simp [intOf]; omega
    · obtain rfl : k = n := by omega
      have HT2 : Hid (toldL (elemsV V) sv) := Lib.hid (by have := HT.out; rw [HN.out] at this; exact this)
      have HL := Lib.hid (lenL_told HT2.out)
      by_cases h1 : sv < 0
      · have HR := Lib.hid (HVE.out 0 60 (by rw [HL.out, if_pos h1]))
        go_wp2
        go_ret2
        exact ⟨by rw [HR.out]; rfl, hbr⟩
      · by_cases h2 : sv > 65536
        · have HR := Lib.hid (HVE.out 0 71 (by rw [HL.out, if_neg h1, if_pos h2]))
          go_wp2
          go_ret2
          exact ⟨by rw [HR.out]; rfl, hbr⟩
        · have HR := Lib.hid (HVE.out sv 0 (by rw [HL.out, if_neg h1, if_neg h2]))
          go_wp2
          go_ret2
          exact ⟨by rw [HR.out]; rfl, hbr⟩
end Go.Proofs.YtocgnjkikgcjdaaDoor
