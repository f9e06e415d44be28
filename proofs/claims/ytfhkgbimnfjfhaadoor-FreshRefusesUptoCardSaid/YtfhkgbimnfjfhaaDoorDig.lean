/- strings.Trim with the ten digits, and small facts on bytes. Conditions: the text's length at most 2^30. -/
import Derived.Test.YtfhkgbimnfjfhaaDoorShf
import Derived.Test.YtfhkgbimnfjfhaaDoorByt
import Derived.Test.YtfhkgbimnfjfhaaDoorDt
import Derived.Test.YtfhkgbimnfjfhaaDoorFold
import Derived.Lib.SlTrimSet
set_option linter.unusedVariables false
set_option linter.unusedSimpArgs false
namespace Go.Proofs.YtfhkgbimnfjfhaaDoor
open Go.RowKit

set_option maxRecDepth 100000
theorem u8_all (c : UInt8) : ∃ n : Fin 256, c = UInt8.ofNat n.val := ⟨⟨c.toNat, c.toNat_lt⟩, by simp⟩
theorem emp_no {s : List UInt8} (h : s ≠ []) : s.isEmpty = false := by cases s with
  | nil => exact absurd rfl h
  | cons a t => rfl
theorem digits_contains (b : UInt8) : ([48, 49, 50, 51, 52, 53, 54, 55, 56, 57] : List UInt8).contains b = Dt.isD b := by
  have : ∀ n : Fin 256, ([48, 49, 50, 51, 52, 53, 54, 55, 56, 57] : List UInt8).contains (UInt8.ofNat n.val) = Dt.isD (UInt8.ofNat n.val) := by decide +kernel
  obtain ⟨n, rfl⟩ := u8_all b
  exact this n
theorem dropW_all {f : UInt8 → Bool} : ∀ {l : List UInt8}, (l.dropWhile f = [] ↔ l.all f = true)
  | [] => by simp
  | b :: r => by
    rw [List.dropWhile_cons, List.all_cons]
    cases hb : f b
    · simp
    · simpa using dropW_all (l := r)
theorem trimD (s : List UInt8) : (Lib.trimS s [48, 49, 50, 51, 52, 53, 54, 55, 56, 57] = [] ↔ s.all Dt.isD = true) := by
  unfold Lib.trimS Lib.trimLeftS Lib.trimRightS
  have e : (fun x => ([48, 49, 50, 51, 52, 53, 54, 55, 56, 57] : List UInt8).contains x) = Dt.isD := funext digits_contains
  rw [e, dropW_all, List.all_reverse]
  constructor
  · intro h
    by_cases ha : s.all Dt.isD = true
    · exact ha
    · exfalso
      have h2 : s.reverse.dropWhile Dt.isD ≠ [] := fun h3 => ha (by rw [dropW_all, List.all_reverse] at h3; exact h3)
      obtain ⟨b, r, hb⟩ : ∃ b r, s.reverse.dropWhile Dt.isD = b :: r := by cases hd : s.reverse.dropWhile Dt.isD with
        | nil => exact absurd hd h2
        | cons b r => exact ⟨b, r, rfl⟩
      have hbf : Dt.isD b = false := by
        have := List.head?_dropWhile_not Dt.isD s.reverse
        rw [hb] at this
        simpa using this
      rw [hb] at h
      simp [hbf] at h
  · intro h
    rw [List.all_eq_true] at h ⊢
    exact fun b hb => h b (by simpa using (List.dropWhile_sublist _).mem hb)
theorem trimD_any (s : List UInt8) (w : World) (hs : s.length ≤ 1073741824) : Calls Tryd.prog 58 #[.string (bs s), .string ⟨#[48, 49, 50, 51, 52, 53, 54, 55, 56, 57]⟩] w fun e w' => e = .returned (.string (bs (Lib.trimS s [48, 49, 50, 51, 52, 53, 54, 55, 56, 57]))) ∧ Below w.heap.size w w' :=
  Tryd.strings_Trim_set (bs s) ⟨#[48, 49, 50, 51, 52, 53, 54, 55, 56, 57]⟩ w (by simp; omega) (by decide) (by
    intro j b hj
    have := List.mem_of_getElem? hj
    simp at this
    rcases this with rfl | rfl | rfl | rfl | rfl | rfl | rfl | rfl | rfl | rfl <;> decide)
end Go.Proofs.YtfhkgbimnfjfhaaDoor
