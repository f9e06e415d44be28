/- Walks of valid.Same and its reference: both compute 'sameR'. Conditions: lengths at most 2^47. -/
import Derived.Test.YtbigcdmkfcmegaaTag
set_option linter.unusedVariables false
set_option linter.unusedSimpArgs false
namespace Go.Proofs.Ytbigcdmkfcmegaa
open Go.RowKit

def sameR (a b : List UInt8) (strong : Bool) : Bool := (tgR a).2.2 && ((tgR b).2.2 && (((tgR a).1 == (tgR b).1) && (!strong || (!(tgR a).2.1 && !(tgR b).2.1))))

set_option maxHeartbeats 1000000 in
theorem same_p (a b : List UInt8) (strong : Bool) (w : World) (ha : a.length ≤ 140737488355328) (hb : b.length ≤ 140737488355328) :
    Calls Try.prog 10 #[.string (bs a), .string (bs b), .bool strong] w fun e w' => e = .returned (.bool (sameR a b strong)) ∧ w = w' := by
  rcases hra : tgR a with ⟨x, v, ok⟩
  rcases hrb : tgR b with ⟨y, u, is⟩
  have HA : Hid (tgV a = .tuple #[.string (bs x), .bool v, .bool ok]) := by unfold tgV; rw [hra]; rfl
  have HB : Hid (tgV b = .tuple #[.string (bs y), .bool u, .bool is]) := by unfold tgV; rw [hrb]; rfl
  rw [sameR, hra, hrb]
  clear hra hrb
  go_enter Try.func10, Try.ntmps10
  go_wp2_with fail
  refine (tag_p a _ ha).mono ?_
  rintro e w' ⟨rfl, rfl⟩
  rw [HA.out]
  go_wp2_with fail
  refine (tag_p b _ hb).mono ?_
  rintro e w' ⟨rfl, rfl⟩
  rw [HB.out]
  clear HA HB ha hb
  by_cases hq : x = y
  · subst hq
    go_wp2
    all_goals
      go_ret
      exact ⟨ret_bool (by cases ok <;> cases is <;> cases strong <;> cases v <;> cases u <;> first | (simp; done) | contradiction | simp_all), rfl⟩
  · have hq' : (x == y) = false := by simpa using hq
    go_wp2
    all_goals
      go_ret
      exact ⟨ret_bool (by rw [hq']; clear hq hq'; cases ok <;> cases is <;> cases strong <;> cases v <;> cases u <;> first | (simp; done) | contradiction | simp_all), rfl⟩

set_option maxHeartbeats 1000000 in
theorem same_r (a b : List UInt8) (strong : Bool) (w : World) (ha : a.length ≤ 140737488355328) (hb : b.length ≤ 140737488355328) :
    Calls Try.prog 11 #[.string (bs a), .string (bs b), .bool strong] w fun e w' => e = .returned (.bool (sameR a b strong)) ∧ w = w' := by
  rcases hra : tgR a with ⟨x, v, ok⟩
  rcases hrb : tgR b with ⟨y, u, is⟩
  have HA : Hid (tgV a = .tuple #[.string (bs x), .bool v, .bool ok]) := by unfold tgV; rw [hra]; rfl
  have HB : Hid (tgV b = .tuple #[.string (bs y), .bool u, .bool is]) := by unfold tgV; rw [hrb]; rfl
  rw [sameR, hra, hrb]
  clear hra hrb
  go_enter Try.func11, Try.ntmps11
  go_wp2_with fail
  refine (tag_r a _ ha).mono ?_
  rintro e w' ⟨rfl, rfl⟩
  rw [HA.out]
  go_wp2_with fail
  refine (tag_r b _ hb).mono ?_
  rintro e w' ⟨rfl, rfl⟩
  rw [HB.out]
  clear HA HB ha hb
  by_cases hq : x = y
  · subst hq
    go_wp2
    all_goals
      go_ret
      exact ⟨ret_bool (by cases ok <;> cases is <;> cases strong <;> cases v <;> cases u <;> first | (simp; done) | contradiction | simp_all), rfl⟩
  · have hq' : (x == y) = false := by simpa using hq
    go_wp2
    all_goals
      go_ret
      exact ⟨ret_bool (by rw [hq']; clear hq hq'; cases ok <;> cases is <;> cases strong <;> cases v <;> cases u <;> first | (simp; done) | contradiction | simp_all), rfl⟩

end Go.Proofs.Ytbigcdmkfcmegaa
