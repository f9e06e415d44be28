/- The library's HasPrefix, HasSuffix, CutPrefix, CutSuffix, walked. Conditions: lengths at most 2^47. -/
import Derived.Test.YtbigcdmkfcmegaaChecked
import Derived.Test.YtbigcdmkfcmegaaStr
set_option linter.unusedVariables false
set_option linter.unusedSimpArgs false
namespace Go.Proofs.Ytbigcdmkfcmegaa
open Go.RowKit

theorem pre_short {p s : List UInt8} (h : ¬ p.length ≤ s.length) : preB p s = false := by
  rw [Bool.eq_false_iff]; intro hp; exact h (preB_len hp)
theorem suf_short {p s : List UInt8} (h : ¬ p.length ≤ s.length) : sufB p s = false := by
  rw [Bool.eq_false_iff]; intro hp; exact h (sufB_len hp)
set_option maxHeartbeats 400000 in
theorem hasPrefix_any (s p : List UInt8) (w : World) (hs : s.length ≤ 140737488355328) (hp : p.length ≤ 140737488355328) :
    Calls Try.prog 32 #[.string (bs s), .string (bs p)] w fun e w' => e = .returned (.bool (preB p s)) ∧ w = w' := by
  go_enter Try.func32, Try.ntmps32
  go_wp2
  · go_ret
    exact ⟨ret_bool rfl, rfl⟩
  · go_ret
    exact ⟨ret_bool (pre_short ‹_›).symm, rfl⟩

set_option maxHeartbeats 400000 in
theorem hasSuffix_any (s p : List UInt8) (w : World) (hs : s.length ≤ 140737488355328) (hp : p.length ≤ 140737488355328) :
    Calls Try.prog 33 #[.string (bs s), .string (bs p)] w fun e w' => e = .returned (.bool (sufB p s)) ∧ w = w' := by
  go_enter Try.func33, Try.ntmps33
  go_wp2
  · go_ret
    exact ⟨ret_bool rfl, rfl⟩
  · go_ret
    exact ⟨ret_bool (suf_short ‹_›).symm, rfl⟩

set_option maxHeartbeats 400000 in
theorem lcutPrefix_any (s p : List UInt8) (w : World) (hs : s.length ≤ 140737488355328) (hp : p.length ≤ 140737488355328) :
    Calls Try.prog 25 #[.string (bs s), .string (bs p)] w fun e w' => e = .returned (.tuple #[.string (bs (cutP p s)), .bool (preB p s)]) ∧ w = w' := by
  have hl := @preB_len p s
  unfold cutP
  by_cases h : preB p s = true
  · have hl' := hl h
    rw [if_pos h]
    go_enter Try.func25, Try.ntmps25
    go_wp2_with (go_at_call 32; refine (hasPrefix_any _ _ _ hs hp).mono ?_; rintro e w' ⟨rfl, rfl⟩)
    go_ret2
    exact ⟨by simp [h], rfl⟩
  · have h' : preB p s = false := by simpa using h
    rw [if_neg h]
    go_enter Try.func25, Try.ntmps25
    go_wp2_with (go_at_call 32; refine (hasPrefix_any _ _ _ hs hp).mono ?_; rintro e w' ⟨rfl, rfl⟩)
    go_ret2
    exact ⟨by simp [h'], rfl⟩
set_option maxHeartbeats 400000 in
theorem lcutSuffix_any (s p : List UInt8) (w : World) (hs : s.length ≤ 140737488355328) (hp : p.length ≤ 140737488355328) :
    Calls Try.prog 26 #[.string (bs s), .string (bs p)] w fun e w' => e = .returned (.tuple #[.string (bs (cutS p s)), .bool (sufB p s)]) ∧ w = w' := by
  have hl := @sufB_len p s
  unfold cutS
  by_cases h : sufB p s = true
  · have hl' := hl h
    rw [if_pos h]
    go_enter Try.func26, Try.ntmps26
    go_wp2_with (go_at_call 33; refine (hasSuffix_any _ _ _ hs hp).mono ?_; rintro e w' ⟨rfl, rfl⟩)
    go_ret2
    exact ⟨by simp [h], rfl⟩
  · have h' : sufB p s = false := by simpa using h
    rw [if_neg h]
    go_enter Try.func26, Try.ntmps26
    go_wp2_with (go_at_call 33; refine (hasSuffix_any _ _ _ hs hp).mono ?_; rintro e w' ⟨rfl, rfl⟩)
    go_ret2
    exact ⟨by simp [h'], rfl⟩
set_option maxHeartbeats 400000 in
theorem cutSuffix_any (s p : List UInt8) (w : World) (hs : s.length ≤ 140737488355328) (hp : p.length ≤ 140737488355328) :
    Calls Try.prog 20 #[.string (bs s), .string (bs p)] w fun e w' => e = .returned (.tuple #[.string (bs (cutS p s)), .bool (sufB p s)]) ∧ w = w' := by
  go_enter Try.func20, Try.ntmps20
  go_wp2_with (go_at_call 26; refine (lcutSuffix_any _ _ _ hs hp).mono ?_; rintro e w' ⟨rfl, rfl⟩)
  go_ret2
  exact ⟨rfl, rfl⟩
set_option maxHeartbeats 400000 in
theorem cutPrefix_any (s p : List UInt8) (w : World) (hs : s.length ≤ 140737488355328) (hp : p.length ≤ 140737488355328) :
    Calls Try.prog 19 #[.string (bs s), .string (bs p)] w fun e w' => e = .returned (.tuple #[.string (bs (cutP p s)), .bool (preB p s)]) ∧ w = w' := by
  go_enter Try.func19, Try.ntmps19
  go_wp2_with (go_at_call 25; refine (lcutPrefix_any _ _ _ hs hp).mono ?_; rintro e w' ⟨rfl, rfl⟩)
  go_ret2
  exact ⟨rfl, rfl⟩

end Go.Proofs.Ytbigcdmkfcmegaa
