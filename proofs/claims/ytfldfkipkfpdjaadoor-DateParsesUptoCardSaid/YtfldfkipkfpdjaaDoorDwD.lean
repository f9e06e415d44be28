/- The program's and the reference's Day and Civil, as one function each. No conditions. -/
import Derived.Test.YtfldfkipkfpdjaaDoorDwC
set_option linter.unusedVariables false
set_option linter.unusedSimpArgs false
namespace Go.Proofs.YtfldfkipkfpdjaaDoor
open Go.RowKit

def TheDay (y m d : Int) : Int × Int := if Cal.valid y m d then (Cal.num y m d, 0) else (0, 20)
theorem day_p (y m d : Int) (w : World) : Calls Tryd.prog 15 #[.int .i64 y, .int .i64 m, .int .i64 d] w fun e w' => e = .returned (.tuple #[.int .i64 (TheDay y m d).1, .int .i64 (TheDay y m d).2]) ∧ w = w' := by
  by_cases h : Cal.valid y m d
  · simp only [TheDay, if_pos h]; exact day_yes y m d w h
  · simp only [TheDay, if_neg h]; exact day_no y m d w h
theorem day_r (y m d : Int) (w : World) : Calls Tryd.prog 31 #[.int .i64 y, .int .i64 m, .int .i64 d] w fun e w' => e = .returned (.tuple #[.int .i64 (TheDay y m d).1, .int .i64 (TheDay y m d).2]) ∧ Below w.heap.size w w' := by
  by_cases h : Cal.valid y m d
  · simp only [TheDay, if_pos h]; exact rday_yes y m d w h
  · simp only [TheDay, if_neg h]
    by_cases h1 : 1970 ≤ y ∧ y ≤ 9999 ∧ 1 ≤ m ∧ m ≤ 12 ∧ 1 ≤ d
    · exact rday_no2 y m d w h1 (by rcases Int.lt_or_le (Cal.len y m) d with g | g; exact g; exact absurd ⟨h1.1, h1.2.1, h1.2.2.1, h1.2.2.2.1, h1.2.2.2.2, g⟩ h)
    · exact rday_no1 y m d w h1
def tcA (n : Int) : Int × Int × Int × Int := if 0 ≤ n ∧ n ≤ 2932896 then (Cal.tcY ((n + 719468) / 146097) ((n + 719468) % 146097), Cal.tcM ((n + 719468) % 146097), Cal.tcD ((n + 719468) % 146097), 0) else (0, 0, 0, 20)
theorem civil_p (n : Int) (w : World) : Calls Tryd.prog 14 #[.int .i64 n] w fun e w' => e = .returned (.tuple #[.int .i64 (tcA n).1, .int .i64 (tcA n).2.1, .int .i64 (tcA n).2.2.1, .int .i64 (tcA n).2.2.2]) ∧ w = w' := by
  by_cases h : 0 ≤ n ∧ n ≤ 2932896
  · simp only [tcA, if_pos h]; exact civil_yes n w h.1 h.2
  · simp only [tcA, if_neg h]; exact civil_no n w h
theorem civil_r (n : Int) (w : World) : Calls Tryd.prog 35 #[.int .i64 n] w fun e w' => e = .returned (.tuple #[.int .i64 (tcA n).1, .int .i64 (tcA n).2.1, .int .i64 (tcA n).2.2.1, .int .i64 (tcA n).2.2.2]) ∧ Below w.heap.size w w' := by
  by_cases h : 0 ≤ n ∧ n ≤ 2932896
  · simp only [tcA, if_pos h]
    refine (rcivil_yes n w h.1 h.2).mono ?_
    rintro e w' ⟨y, m, d, ⟨hv, hn⟩, rfl, hb⟩
    obtain ⟨_, _, _, t4, t5⟩ := Cal.tc_all n h.1 (by omega)
    obtain ⟨rfl, rfl, rfl⟩ := Cal.num_inj _ _ _ _ _ _ hv (t4 h.2) (by rw [hn, t5])
    exact ⟨rfl, hb⟩
  · simp only [tcA, if_neg h]; exact (rcivil_no n w h).mono fun _ _ ⟨he, hw⟩ => ⟨he, by subst hw; exact Below.refl _ _⟩

end Go.Proofs.YtfldfkipkfpdjaaDoor
