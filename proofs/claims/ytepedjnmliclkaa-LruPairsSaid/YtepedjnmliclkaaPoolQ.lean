/- The pool's questions: by origin, by id, by age. No conditions of ours. -/
import Derived.Test.YtepedjnmliclkaaFindQ
import Derived.Laws.EntriesVeiled
import Derived.IntWalk
set_option linter.unusedVariables false
set_option linter.unusedSimpArgs false
namespace Go.Proofs.Ytepedjnmliclkaa
open Go.RowKit

def secL (v : Int) : Int := if v < 0 then 0 else if 253402300799 < v then 253402300799 else v
theorem secL_bd (v : Int) : 0 ≤ secL v ∧ secL v ≤ 253402300799 := by unfold secL; split <;> (try split) <;> omega
theorem second_any (v : Int) (w : World) : Calls Try.prog 80 #[.int .i64 v] w fun e w' => e = .returned (.int .i64 (secL v)) ∧ w' = w := by
  have HS : Hid (secL v = if v < 0 then 0 else if 253402300799 < v then 253402300799 else v) := Lib.hid rfl
  generalize secL v = R at *
  go_enter Try.func80, Try.ntmps80
  go_wp2
  all_goals
    go_ret
    refine ⟨ret_int ?_, rfl⟩
    rw [HS.out]
    repeat' split
    all_goals (try split at *) <;> omega
/-- Is what was put in at wh old at now? -/
def oldB (idle now wh : Int) : Bool := decide (idle ≤ secL now - secL wh)
theorem old_any (pb g : Nat) (idle now wh : Int) (w : World) (h1 : w.cell? ⟨g, 2, none⟩ = some (.int .i64 wh)) (h2 : w.cell? ⟨pb, 2, none⟩ = some (.int .i64 idle)) :
    Calls Try.prog 71 #[.pointer (some ⟨pb, 0, none⟩), .pointer (some ⟨g, 0, none⟩), .int .i64 now] w fun e w' => e = .returned (.bool (oldB idle now wh)) ∧ ∃ n, w' = w.drewN n := by
  have hx := second_any now
  have hy := second_any wh
  have b1 := secL_bd now
  have b2 := secL_bd wh
  have HO : Hid (oldB idle now wh = decide (idle ≤ secL now - secL wh)) := Lib.hid rfl
  generalize oldB idle now wh = R at *
  generalize secL now = a at *
  generalize secL wh = b at *
  have hw : IntKind.i64.wrap (a - b) = a - b := IntWalk.i64_in _ (by omega)
  have Hx : Hid (∀ w, Calls Try.prog 80 #[.int .i64 now] w fun e w' => e = .returned (.int .i64 a) ∧ w' = w) := Lib.hid hx
  have Hy : Hid (∀ w, Calls Try.prog 80 #[.int .i64 wh] w fun e w' => e = .returned (.int .i64 b) ∧ w' = w) := Lib.hid hy
  clear hx hy b1 b2
  go_enter Try.func71, Try.ntmps71
  go_wp2
  go_quiet ((first | (go_at_call 80; with_reducible exact Calls.quiet_of_same (Hx.out _)) | (go_at_call 80; with_reducible exact Calls.quiet_of_same (Hy.out _))))
  go_wp2
  go_ret
  refine ⟨ret_bool ?_, _, rfl⟩
  rw [HO.out]
theorem ofQ_any (ob g : Nat) (o o2 : List UInt8) (w : World) (h1 : w.cell? ⟨g, 0, none⟩ = some (.string (bs o))) (h2 : w.cell? ⟨ob, 0, none⟩ = some (.string (bs o2))) :
    Calls Try.prog 64 #[.pointer (some ⟨g, 0, none⟩), .pointer (some ⟨ob, 0, none⟩)] w fun e w' => e = .returned (.bool (o == o2)) ∧ ∃ n, w' = w.drewN n := by
  go_enter Try.func64, Try.ntmps64
  go_wp2
  go_quiet (fail)
  go_wp2
  go_ret
  exact ⟨rfl, _, rfl⟩
theorem idQ_any (ib g : Nat) (i i2 : Int) (w : World) (h1 : w.cell? ⟨g, 1, none⟩ = some (.int .i64 i)) (h2 : w.cell? ⟨ib, 0, none⟩ = some (.int .i64 i2)) :
    Calls Try.prog 76 #[.pointer (some ⟨g, 0, none⟩), .pointer (some ⟨ib, 0, none⟩)] w fun e w' => e = .returned (.bool (i == i2)) ∧ ∃ n, w' = w.drewN n := by
  go_enter Try.func76, Try.ntmps76
  go_wp2
  go_quiet (fail)
  go_wp2
  go_ret
  exact ⟨rfl, _, rfl⟩
theorem oldQ_any (pb pp nb g : Nat) (idle now wh : Int) (w : World) (h1 : w.cell? ⟨g, 2, none⟩ = some (.int .i64 wh)) (h2 : w.cell? ⟨pb, 2, none⟩ = some (.int .i64 idle)) (h3 : w.cell? ⟨pp, 0, none⟩ = some (.pointer (some ⟨pb, 0, none⟩))) (h4 : w.cell? ⟨nb, 0, none⟩ = some (.int .i64 now)) :
    Calls Try.prog 75 #[.pointer (some ⟨g, 0, none⟩), .pointer (some ⟨pp, 0, none⟩), .pointer (some ⟨nb, 0, none⟩)] w fun e w' => e = .returned (.bool (oldB idle now wh)) ∧ ∃ n, w' = w.drewN n := by
  go_enter Try.func75, Try.ntmps75
  go_wp2_with fail
  refine (old_any pb g idle now wh _ h1 h2).mono ?_
  rintro e w' ⟨rfl, n, rfl⟩
  go_wp2
  go_ret
  exact ⟨rfl, _, rfl⟩
/-- The question of Take: of this origin, and not old. -/
theorem takeQ_any (pb pp ob nb g : Nat) (o o2 : List UInt8) (idle now wh : Int) (w : World) (h0 : w.cell? ⟨g, 0, none⟩ = some (.string (bs o))) (h5 : w.cell? ⟨ob, 0, none⟩ = some (.string (bs o2))) (h1 : w.cell? ⟨g, 2, none⟩ = some (.int .i64 wh)) (h2 : w.cell? ⟨pb, 2, none⟩ = some (.int .i64 idle)) (h3 : w.cell? ⟨pp, 0, none⟩ = some (.pointer (some ⟨pb, 0, none⟩))) (h4 : w.cell? ⟨nb, 0, none⟩ = some (.int .i64 now)) :
    Calls Try.prog 70 #[.pointer (some ⟨g, 0, none⟩), .pointer (some ⟨ob, 0, none⟩), .pointer (some ⟨pp, 0, none⟩), .pointer (some ⟨nb, 0, none⟩)] w fun e w' => e = .returned (.bool (o == o2 && !oldB idle now wh)) ∧ ∃ n, w' = w.drewN n := by
  cases ho : (o == o2)
  · go_enter Try.func70, Try.ntmps70
    go_wp2
    go_quiet (fail)
    go_wp2
    go_ret
    exact ⟨rfl, _, rfl⟩
  · go_enter Try.func70, Try.ntmps70
    go_wp2
    go_quiet ((go_at_call 71; exact Calls.quiet_of (old_any pb g idle now wh _ h1 h2)))
    go_wp2
    go_ret
    exact ⟨rfl, _, rfl⟩
end Go.Proofs.Ytepedjnmliclkaa
