/- Walks of the parts of a date's text: pad, clock, weekdays. Conditions: the numbers' bounds; the library's table of powers of ten where a number has four digits. -/
import Derived.Test.YtfldfkipkfpdjaaDoorChecked
import Derived.Test.YtfldfkipkfpdjaaDoorShf
import Derived.Test.YtfldfkipkfpdjaaDoorStr
import Derived.Test.YtfldfkipkfpdjaaDoorMem
import Derived.Test.YtfldfkipkfpdjaaDoorApp
import Derived.Test.YtfldfkipkfpdjaaDoorTy
import Derived.Test.YtfldfkipkfpdjaaDoorDtR
import Derived.Deep.RegionHeld3
import Derived.Deep.Cut
import Derived.Deep.DeepCutAuto
import Derived.Below
import Derived.IntWalk
import Derived.Lib.AppendIntMem
set_option linter.unusedVariables false
set_option linter.unusedSimpArgs false
namespace Go.Proofs.YtfldfkipkfpdjaaDoor
open Go.RowKit

theorem pad2_small {k : Nat} (h : k < 10) : [48] ++ Lib.decDigits k = Dt.pad2 (k : Int) := by
  rw [Lib.decDigits_one h]
  unfold Dt.pad2 Dt.dgt
  have e1 : (((k : Int) / 10) % 10).toNat = 0 := by omega
  have e2 : ((k : Int) % 10).toNat = k := by omega
  rw [e1, e2]; rfl
theorem pad2_big {k : Nat} (h1 : ¬ k < 10) (h : k < 100) : Lib.decDigits k = Dt.pad2 (k : Int) := by
  rw [Lib.decDigits_two h1 h]
  unfold Dt.pad2 Dt.dgt
  have e1 : (((k : Int) / 10) % 10).toNat = k / 10 := by omega
  have e2 : ((k : Int) % 10).toNat = k % 10 := by omega
  rw [e1, e2]
theorem dec_four {k : Nat} (h1 : 1000 ≤ k) (h : k < 10000) : Lib.decDigits k = Dt.pad4 (k : Int) := by
  rw [Lib.decDigits, dif_neg (by omega), Lib.decDigits, dif_neg (by omega), Lib.decDigits_two (by omega) (by omega)]
  unfold Dt.pad4 Dt.dgt
  have e1 : (((k : Int) / 1000) % 10).toNat = k / 10 / 10 / 10 := by omega
  have e2 : (((k : Int) / 100) % 10).toNat = k / 10 / 10 % 10 := by omega
  have e3 : (((k : Int) / 10) % 10).toNat = k / 10 % 10 := by omega
  have e4 : ((k : Int) % 10).toNat = k % 10 := by omega
  rw [e1, e2, e3, e4]; rfl
theorem itoa_small {k : Nat} (h : k < 100) (w : World) : Calls Tryd.prog 33 #[.int .i64 k] w fun e w' => e = .returned (.string (bs (Lib.decDigits k))) ∧ w = w' := (Tryd.strconv_Itoa_small k h w).mono fun _ _ h => ⟨h.1, h.2.symm⟩
theorem rep_one (w : World) : Calls Tryd.prog 34 #[.string ⟨#[48]⟩, .int .i64 1] w fun e w' => e = .returned (.string (bs [48])) ∧ w = w' := (Tryd.strings_Repeat_one ⟨#[48]⟩ w).mono fun _ _ h => ⟨h.1, h.2.symm⟩
theorem rep_zero (w : World) : Calls Tryd.prog 34 #[.string ⟨#[48]⟩, .int .i64 0] w fun e w' => e = .returned (.string (bs [])) ∧ w = w' := (Tryd.strings_Repeat_zero ⟨#[48]⟩ w).mono fun _ _ h => ⟨h.1, h.2.symm⟩
theorem pad2_any (v : Int) (w : World) (h0 : 0 ≤ v) (h1 : v < 100) :
    Calls Tryd.prog 18 #[.int .i64 v, .int .i64 2] w fun e w' => e = .returned (.string (bs (Dt.pad2 v))) ∧ w = w' := by
  obtain ⟨k, rfl⟩ : ∃ k : Nat, v = k := ⟨v.toNat, by omega⟩
  have hC := itoa_small (k := k) (by omega)
  by_cases hk : k < 10
  · have HP := Lib.hid (pad2_small hk)
    have hl : (Lib.decDigits k).length = 1 := by rw [Lib.decDigits_one hk]; rfl
    generalize Lib.decDigits k = D at *
    go_enter Tryd.func18, Tryd.ntmps18
    go_wp2_with fail
    refine (hC _).mono ?_
    rintro e w1 ⟨rfl, rfl⟩
    clear hC
    go_wp2_with fail
    refine (rep_one _).mono ?_
    rintro e w1 ⟨rfl, rfl⟩
    go_wp2
    go_ret
    exact ⟨ret_str HP.out, rfl⟩
  · have HP := Lib.hid (pad2_big hk (by omega))
    have hl : (Lib.decDigits k).length = 2 := by rw [Lib.decDigits_two hk (by omega)]; rfl
    generalize Lib.decDigits k = D at *
    go_enter Tryd.func18, Tryd.ntmps18
    go_wp2_with fail
    refine (hC _).mono ?_
    rintro e w1 ⟨rfl, rfl⟩
    clear hC
    go_wp2_with fail
    refine (rep_zero _).mono ?_
    rintro e w1 ⟨rfl, rfl⟩
    go_wp2
    go_ret
    exact ⟨ret_str HP.out, rfl⟩
abbrev Tab (w : World) : Prop := Lib.TabIs Tryd.prog w "internal/strconv.uint64pow10" .u64 Lib.pow10Tab
theorem pad4_any (v : Int) (w : World) (h0 : 1000 ≤ v) (h1 : v < 10000) (htab : Tab w) :
    Calls Tryd.prog 18 #[.int .i64 v, .int .i64 4] w fun e w' => e = .returned (.string (bs (Dt.pad4 v))) ∧ Below w.heap.size w w' := by
  obtain ⟨k, rfl⟩ : ∃ k : Nat, v = k := ⟨v.toNat, by omega⟩
  have hC := Tryd.strconv_Itoa (k : Int) (by omega) (by omega) w htab
  have he : Lib.itoa (k : Int) = Dt.pad4 (k : Int) := by
    unfold Lib.itoa
    rw [if_neg (by omega), ← dec_four (by omega) (by omega)]
    rfl
  rw [he] at hC
  have hl : (Dt.pad4 (k : Int)).length = 4 := rfl
  have hC' : Calls Tryd.prog 33 #[.int .i64 k] w fun e w' => e = .returned (.string (bs (Dt.pad4 (k : Int)))) ∧ Below w.heap.size w w' := hC.mono fun e w' h => ⟨h.1, by
    obtain ⟨q, os, h2⟩ := h.2
    rw [h2]
    exact Lib.below_grow _ _ (Nat.le_refl _) q os⟩
  clear hC he htab
  generalize Dt.pad4 (k : Int) = D at *
  go_enter Tryd.func18, Tryd.ntmps18
  go_wp2_with fail
  refine hC'.mono ?_
  rintro e w1 ⟨rfl, hb1⟩
  clear hC'
  go_wp2_with fail
  refine (rep_zero _).mono ?_
  rintro e w1 ⟨rfl, rfl⟩
  go_wp2
  go_ret
  exact ⟨ret_str rfl, hb1⟩
theorem clock_any (r : Int) (w : World) (h0 : 0 ≤ r) (h1 : r < 86400) :
    Calls Tryd.prog 19 #[.int .i64 r] w fun e w' => e = .returned (.string (bs (Dt.hms r))) ∧ w = w' := by
  go_enter Tryd.func19, Tryd.ntmps19
  go_wp2_with fail
  refine (pad2_any _ _ (by omega) (by omega)).mono ?_
  rintro e w1 ⟨rfl, rfl⟩
  go_wp2_with fail
  refine (pad2_any _ _ (by omega) (by omega)).mono ?_
  rintro e w1 ⟨rfl, rfl⟩
  go_wp2_with fail
  refine (pad2_any _ _ (by omega) (by omega)).mono ?_
  rintro e w1 ⟨rfl, rfl⟩
  go_wp2
  go_ret
  exact ⟨ret_str (by simp [Dt.hms, bs_data]), rfl⟩
end Go.Proofs.YtfldfkipkfpdjaaDoor
