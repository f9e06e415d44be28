/- Walks of the scan's end, of the third form and of Parse. Conditions: the text's length at most 2^40. -/
import Derived.Test.YtfldfkipkfpdjaaDoorDtS2
import Derived.Test.YtfldfkipkfpdjaaDoorDwD
set_option linter.unusedVariables false
set_option linter.unusedSimpArgs false
namespace Go.Proofs.YtfldfkipkfpdjaaDoor
open Go.RowKit

set_option maxRecDepth 100000
theorem theDay_yes {y m d : Int} (h : Cal.valid y m d) : TheDay y m d = (Cal.num y m d, 0) := by unfold TheDay; rw [if_pos h]
theorem theDay_no {y m d : Int} (h : ¬ Cal.valid y m d) : TheDay y m d = (0, 20) := by unfold TheDay; rw [if_neg h]
set_option maxHeartbeats 2000000 in
theorem done_any (b : Nat) (wd y m d r : Int) (s : List UInt8) (ok : Bool) (w : World) (h : SC w b s ok) (hs : s.length ≤ 1099511627776) (hr0 : 0 ≤ r) (hr1 : r ≤ 1000000) :
    Calls Tryd.prog 27 #[.pointer (some ⟨b, 0, none⟩), .int .i64 wd, .int .i64 y, .int .i64 m, .int .i64 d, .int .i64 r] w fun e w' => e = .returned (.tuple #[.int .i64 (Dt.doneV wd y m d r s ok).1, .int .i64 (Dt.doneV wd y m d r s ok).2]) ∧ w = w' := by
  have HL : Hid (Dt.doneV wd y m d r s ok = if ok = true ∧ s = [] ∧ Cal.valid y m d ∧ Cal.num y m d % 7 = wd then (Cal.num y m d * 86400 + r, 0) else (0, 20)) := Lib.hid rfl
  generalize Dt.doneV wd y m d r s ok = R at *
  have hD := day_p y m d w
  obtain ⟨c0, c1, f0, f1⟩ := h.cells
  clear h
  by_cases hv : Cal.valid y m d
  · rw [theDay_yes hv] at hD
    dsimp only at hD
    obtain ⟨n0, n1⟩ := Dt.num_bd2 hv
    have HV := Lib.hid hv
    clear hv
    generalize Cal.num y m d = n at *
    go_enter Tryd.func27, Tryd.ntmps27
    go_wp2_with fail
    refine hD.mono ?_
    rintro e w1 ⟨rfl, rfl⟩
    clear hD
    cases ok with
    | false =>
      have HR : Hid (R = (0, 20)) := Lib.hid (by rw [HL.out, if_neg (by simp)])
      clear HL
      go_wp2
      go_ret2
      exact ⟨by rw [HR.out]; rfl, rfl⟩
    | true =>
      cases s with
      | cons q t =>
        have HR : Hid (R = (0, 20)) := Lib.hid (by rw [HL.out, if_neg (by simp)])
        clear HL
        go_wp2
        go_ret2
        exact ⟨by rw [HR.out]; rfl, rfl⟩
      | nil =>
        by_cases hw : n % 7 = wd
        · have HR : Hid (R = (n * 86400 + r, 0)) := Lib.hid (by rw [HL.out, if_pos ⟨rfl, rfl, HV.out, hw⟩])
          have hne : (n % 7 != wd) = false := by simp [hw]
          clear HL hw
          go_wp2
          go_ret2
          exact ⟨by rw [HR.out]; rfl, rfl⟩
        · have HR : Hid (R = (0, 20)) := Lib.hid (by rw [HL.out, if_neg (fun h => hw h.2.2.2)])
          have hne : (n % 7 != wd) = true := by simp [hw]
          clear HL hw
          go_wp2
          go_ret2
          exact ⟨by rw [HR.out]; rfl, rfl⟩
  · rw [theDay_no hv] at hD
    dsimp only at hD
    have HR : Hid (R = (0, 20)) := Lib.hid (by rw [HL.out, if_neg (fun h => hv h.2.2.1)])
    clear hv HL
    go_enter Tryd.func27, Tryd.ntmps27
    go_wp2_with fail
    refine hD.mono ?_
    rintro e w1 ⟨rfl, rfl⟩
    clear hD
    cases ok with
    | false =>
      go_wp2
      go_ret2
      exact ⟨by rw [HR.out]; rfl, rfl⟩
    | true =>
      cases s with
      | cons q t =>
        go_wp2
        go_ret2
        exact ⟨by rw [HR.out]; rfl, rfl⟩
      | nil =>
        go_wp2
        go_ret2
        exact ⟨by rw [HR.out]; rfl, rfl⟩
end Go.Proofs.YtfldfkipkfpdjaaDoor
