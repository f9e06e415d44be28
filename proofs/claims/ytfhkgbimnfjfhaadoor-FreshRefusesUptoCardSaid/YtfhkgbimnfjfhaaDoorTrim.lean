/- tok.Trim and the reference's Trim: a text without blanks at its ends. Conditions: the length at most 2^47. -/
import Derived.Test.YtfhkgbimnfjfhaaDoorPieces
import Derived.Test.YtfhkgbimnfjfhaaDoorFold
import Derived.Test.YtfhkgbimnfjfhaaDoorShf
set_option linter.unusedVariables false
set_option linter.unusedSimpArgs false
namespace Go.Proofs.YtfhkgbimnfjfhaaDoor
open Go.RowKit

theorem trim_any (s : List UInt8) (w : World) (hs : s.length ≤ 140737488355328) :
    Calls Tryd.prog 61 #[.string (bs s)] w fun e w' => e = .returned (.string (bs (trimL s))) ∧ Below w.heap.size w w' := by
  go_enter Tryd.func61, Tryd.ntmps61
  go_wp2_with fail
  refine (Tryd.strings_Trim_set (bs s) (bs [32, 9]) w (by simp; omega) (by decide) (ascii_of_all (by decide))).mono ?_
  rintro e w1 ⟨rfl, hb1⟩
  go_wp2
  go_ret
  exact ⟨rfl, hb1⟩

set_option maxHeartbeats 400000 in
theorem trimR_any (s : List UInt8) (w : World) (hs : s.length ≤ 140737488355328) :
    Calls Tryd.prog 63 #[.string (bs s)] w fun e w' => e = .returned (.string (bs (trimL s))) ∧ w = w' := by
  have HT : Hid (∀ lo hi : Nat, lo ≤ hi → hi ≤ s.length → (∀ (j : Nat) b, j < lo → s[j]? = some b → blankB b = true) → (∀ (j : Nat) b, hi ≤ j → s[j]? = some b → blankB b = true) → (lo < hi → (∀ b, s[lo]? = some b → blankB b = false) ∧ (∀ b, s[hi - 1]? = some b → blankB b = false)) → (lo = hi → lo = s.length) → (s.drop lo).take (hi - lo) = trimL s) :=
    Lib.hid fun lo hi h1 h2 h3 h4 h5 h6 => (trimL_at s lo hi h1 h2 h3 h4 h5 h6).symm
  go_enter Tryd.func63, Tryd.ntmps63
  go_wp2
  go_loop [3] (fun t => ∃ k : Nat, k ≤ s.length ∧ t = .int .i64 k ∧ Hid (∀ (j : Nat) b, j < k → s[j]? = some b → blankB b = true)) (fun t => s.length - (intOf t).toNat)
  case atStart => exact ⟨0, by omega, rfl, Lib.hid (fun j b h => by omega)⟩
  case round =>
    obtain ⟨lo, hk, rfl, HA⟩ := hrel
    have HEND : Hid (∀ hi : Nat, lo ≤ hi → hi ≤ s.length → (lo < s.length → ∃ b, s[lo]? = some b ∧ blankB b = false) → (∀ (j : Nat) b, hi ≤ j → s[j]? = some b → blankB b = true) → (lo < hi → ∃ b, s[hi - 1]? = some b ∧ blankB b = false) → (s.drop lo).take (hi - lo) = trimL s) := Lib.hid fun hi h1 h2 h3 h4 h5 => by
      refine HT.out lo hi h1 h2 HA.out h4 (fun hlt => ⟨fun b hb => ?_, fun b hb => ?_⟩) (fun he => ?_)
      · obtain ⟨b2, e2, f2⟩ := h3 (by omega); rw [e2] at hb; cases hb; exact f2
      · obtain ⟨b2, e2, f2⟩ := h5 hlt; rw [e2] at hb; cases hb; exact f2
      · apply Classical.byContradiction
        intro hne
        obtain ⟨b2, e2, f2⟩ := h3 (by omega)
        have := h4 lo b2 (by omega) e2
        rw [f2] at this; cases this
    by_cases hlt : lo < s.length ∧ (s[lo]?.map blankB = some true)
    · obtain ⟨hl, HB⟩ := hlt
      have hbl : s[lo].toNat = 32 ∨ s[lo].toNat = 9 := by
        rw [List.getElem?_eq_getElem hl] at HB
        simp only [Option.map_some, Option.some.injEq, blankB, Bool.or_eq_true, beq_iff_eq] at HB
        rcases HB with h | h <;> rw [h] <;> simp
      have HN : Hid (∀ (j : Nat) b, j < lo + 1 → s[j]? = some b → blankB b = true) := Lib.hid fun j b hj hb => by
        by_cases h : j < lo
        · exact HA.out j b h hb
        · obtain rfl : j = lo := by omega
          rw [hb] at HB; simpa using HB
      clear HB
      rcases hbl with h32 | h9
      · have h1 : (s[lo].toNat : Int) = 32 := by omega
        go_wp2
        go_round
        case rel => exact ⟨lo + 1, by omega, by go_num, HN⟩
        case measure => simp [intOf]; omega
      · have h1 : ((s[lo].toNat : Int) == 32) = false := by rw [beq_eq_false_iff_ne]; omega
        have h2 : (s[lo].toNat : Int) = 9 := by omega
        go_wp2
        go_round
        case rel => exact ⟨lo + 1, by omega, by go_num, HN⟩
        case measure => simp [intOf]; omega
    · have H3 : Hid (lo < s.length → ∃ b, s[lo]? = some b ∧ blankB b = false) := Lib.hid fun hl => ⟨s[lo], List.getElem?_eq_getElem hl, by
        rw [List.getElem?_eq_getElem hl] at hlt
        simpa [hl] using hlt⟩
      have HH : Hid (∀ hi : Nat, lo ≤ hi → hi ≤ s.length → (∀ (j : Nat) b, hi ≤ j → s[j]? = some b → blankB b = true) → (lo < hi → ∃ b, s[hi - 1]? = some b ∧ blankB b = false) → (s.drop lo).take (hi - lo) = trimL s) := Lib.hid fun hi h1 h2 h4 h5 => HEND.out hi h1 h2 H3.out h4 h5
      clear HT HEND HA
      have h2 : ∀ hl : lo < s.length, ((s[lo].toNat : Int) == 32) = false ∧ ((s[lo].toNat : Int) == 9) = false := fun hl => by
        obtain ⟨b, hb, hf⟩ := H3.out hl
        rw [List.getElem?_eq_getElem hl] at hb
        cases hb
        rw [beq_eq_false_iff_ne, beq_eq_false_iff_ne]
        refine ⟨fun h => ?_, fun h => ?_⟩
        · have : s[lo] = 32 := UInt8.toNat_inj.1 (by simp; omega)
          rw [this] at hf; cases hf
        · have : s[lo] = 9 := UInt8.toNat_inj.1 (by simp; omega)
          rw [this] at hf; cases hf
      clear hlt H3
      have h3 : (∃ hl : lo < s.length, ((s[lo].toNat : Int) == 32) = false ∧ ((s[lo].toNat : Int) == 9) = false) ∨ ¬ lo < s.length := by
        by_cases hl : lo < s.length
        · exact .inl ⟨hl, h2 hl⟩
        · exact .inr hl
      clear h2
      rcases h3 with ⟨hl, hn1, hn2⟩ | hl
      all_goals
        go_wp2
        go_loop [4] (fun t => ∃ k : Nat, lo ≤ k ∧ k ≤ s.length ∧ t = .int .i64 k ∧ Hid (∀ (j : Nat) b, k ≤ j → s[j]? = some b → blankB b = true)) (fun t => (intOf t).toNat)
        case atStart => exact ⟨s.length, by omega, by omega, rfl, Lib.hid fun j b hj hb => by have := lt_of_get? hb; omega⟩
        case round =>
          obtain ⟨hi, hh1, hh2, rfl, HB⟩ := hrel
          by_cases hgt : lo < hi
          · have hi1 : hi - 1 < s.length := by omega
            have hcast : ((hi : Int) - 1) = ((hi - 1 : Nat) : Int) := by omega
            by_cases hbl : s[hi - 1].toNat = 32 ∨ s[hi - 1].toNat = 9
            · have HN : Hid (∀ (j : Nat) b, hi - 1 ≤ j → s[j]? = some b → blankB b = true) := Lib.hid fun j b hj hb => by
                by_cases h : hi ≤ j
                · exact HB.out j b h hb
                · obtain rfl : j = hi - 1 := by omega
                  rw [List.getElem?_eq_getElem hi1] at hb
                  cases hb
                  unfold blankB
                  rcases hbl with h | h
                  · rw [show s[hi - 1] = 32 from UInt8.toNat_inj.1 (by simpa using h)]; rfl
                  · rw [show s[hi - 1] = 9 from UInt8.toNat_inj.1 (by simpa using h)]; rfl
              rcases hbl with h32 | h9
              · have h1 : (s[hi - 1].toNat : Int) = 32 := by omega
                go_wp2
                go_round
                case rel => exact ⟨hi - 1, by omega, by omega, by go_num, HN⟩
                case measure => simp [intOf]; omega
              · have h1 : ((s[hi - 1].toNat : Int) == 32) = false := by rw [beq_eq_false_iff_ne]; omega
                have h2 : (s[hi - 1].toNat : Int) = 9 := by omega
                go_wp2
                go_round
                case rel => exact ⟨hi - 1, by omega, by omega, by go_num, HN⟩
                case measure => simp [intOf]; omega
            · have HR := Lib.hid (HH.out hi hh1 hh2 HB.out (fun _ => ⟨s[hi - 1], List.getElem?_eq_getElem hi1, by
                unfold blankB
                rw [Bool.or_eq_false_iff, beq_eq_false_iff_ne, beq_eq_false_iff_ne]
                refine ⟨fun h => hbl (.inl (by rw [h]; rfl)), fun h => hbl (.inr (by rw [h]; rfl))⟩⟩))
              have h1 : ((s[hi - 1].toNat : Int) == 32) = false := by rw [beq_eq_false_iff_ne]; omega
              have h2 : ((s[hi - 1].toNat : Int) == 9) = false := by rw [beq_eq_false_iff_ne]; omega
              clear hbl
              go_wp2
              go_ret
              exact ⟨by rw [← HR.out]; rfl, rfl⟩
          · have HR := Lib.hid (HH.out hi hh1 hh2 HB.out (fun h => absurd h hgt))
            go_wp2
            go_ret
            exact ⟨by rw [← HR.out]; rfl, rfl⟩
end Go.Proofs.YtfhkgbimnfjfhaaDoor
