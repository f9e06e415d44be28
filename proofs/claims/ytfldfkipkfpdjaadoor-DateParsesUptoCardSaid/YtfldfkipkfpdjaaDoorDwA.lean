/- Walks of package date's and its reference's functions for days and civil dates: what each call computes. Conditions: the integers' bounds as premises. -/
import Derived.Test.YtfldfkipkfpdjaaDoorChecked
import Derived.Test.YtfldfkipkfpdjaaDoorCal
import Derived.Test.YtfldfkipkfpdjaaDoorStr
import Derived.WalkKit
import Derived.WalkSpells
import Derived.WalkLawsBesides
import Derived.Lib.Hide
import Derived.Deep.Cut
set_option linter.unusedVariables false
set_option linter.unusedSimpArgs false
namespace Go.Proofs.YtfldfkipkfpdjaaDoor
open Go.RowKit
set_option maxHeartbeats 400000 in
theorem leap_any (y : Int) (w : World) (h0 : 0 ≤ y) (h1 : y ≤ 100000) :
    Calls Tryd.prog 45 #[.int .i64 y] w fun e w' => e = .returned (.bool (Cal.lpB y)) ∧ w = w' := by
  go_enter Tryd.func45, Tryd.ntmps45
  go_wp2
  all_goals
    go_ret
    refine ⟨ret_bool ?_, rfl⟩
    unfold Cal.lpB
    rw [Bool.eq_iff_iff]
    simp_all

set_option maxHeartbeats 400000 in
theorem fromCivil_any (y m d : Int) (w : World) (hy : 1 ≤ y) (hy2 : y ≤ 100000) (hm : 1 ≤ m) (hm2 : m ≤ 12) (hd : 1 ≤ d) (hd2 : d ≤ 31) :
    Calls Tryd.prog 32 #[.int .i64 y, .int .i64 m, .int .i64 d] w fun e w' => e = .returned (.int .i64 (Cal.fc y m d)) ∧ w = w' := by
  go_enter Tryd.func32, Tryd.ntmps32
  go_wp2
  all_goals
    go_ret
    refine ⟨ret_int ?_, rfl⟩
    unfold Cal.fc
    first | rw [if_pos ‹_›] | rw [if_neg (by omega)]

theorem ret_tup2 {k k2 : IntKind} {a b a' b' : Int} (h : a = a') (h' : b = b') :
    Ending.returned (.tuple #[.int k a, .int k2 b]) = .returned (.tuple #[.int k a', .int k2 b']) := by rw [h, h']
theorem ret_tup3 {k : IntKind} {a b c a' b' c' : Int} (h : a = a') (h' : b = b') (h'' : c = c') :
    Ending.returned (.tuple #[.int k a, .int k b, .int k c]) = .returned (.tuple #[.int k a', .int k b', .int k c']) := by rw [h, h', h'']

set_option maxHeartbeats 400000 in
theorem toCivil_gen (n era e u o p : Int) (w : World) (hn : 0 ≤ n) (hn2 : n ≤ 3000000) (r0 : 0 ≤ era) (r1 : era ≤ 30) (e0 : 0 ≤ e) (e1 : e ≤ 146096) (y0 : 0 ≤ u) (y1 : u ≤ 399) (o0 : 0 ≤ o) (o1 : o ≤ 365) (p0 : 0 ≤ p) (p1 : p ≤ 11)
    (hr : Hid ((n + 719468) / 146097 = era)) (he : Hid (n + 719468 - era * 146097 = e)) (hu : Hid ((e - e / 1460 + e / 36524 - e / 146096) / 365 = u)) (ho : Hid (e - (365 * u + u / 4 - u / 100) = o)) (hp : Hid ((5 * o + 2) / 153 = p)) :
    Calls Tryd.prog 16 #[.int .i64 n] w fun e w' => e = .returned (.tuple #[.int .i64 (u + era * 400 + if (p + 2) % 12 + 1 ≤ 2 then 1 else 0), .int .i64 ((p + 2) % 12 + 1), .int .i64 (o - (153 * p + 2) / 5 + 1)]) ∧ w = w' := by
  go_enter Tryd.func16, Tryd.ntmps16
  go_upto_region 3 with fail
  rw [hr.out]
  go_upto_region 4 with fail
  rw [he.out]
  go_upto_region 5 with fail
  rw [hu.out]
  go_upto_region 6 with fail
  rw [ho.out]
  go_upto_region 7 with fail
  rw [hp.out]
  go_wp2
  all_goals
    go_ret3
    exact ⟨ret_tup3 rfl rfl rfl, rfl⟩

theorem toCivil_any (n : Int) (w : World) (hn : 0 ≤ n) (hn2 : n ≤ 3000000) :
    Calls Tryd.prog 16 #[.int .i64 n] w fun e w' => e = .returned (.tuple #[.int .i64 (Cal.tcY ((n + 719468) / 146097) ((n + 719468) % 146097)), .int .i64 (Cal.tcM ((n + 719468) % 146097)), .int .i64 (Cal.tcD ((n + 719468) % 146097))]) ∧ w = w' := by
  have e0 : 0 ≤ (n + 719468) % 146097 := by omega
  have e1 : (n + 719468) % 146097 ≤ 146096 := by omega
  obtain ⟨y0, y1⟩ := Cal.yoe_bd _ e0 e1
  obtain ⟨o0, o1, _⟩ := Cal.doy_bd _ e0 e1
  exact toCivil_gen n _ _ (Cal.yoe ((n + 719468) % 146097)) (Cal.doy ((n + 719468) % 146097)) _ w hn hn2 (by omega) (by omega) e0 e1 y0 y1 o0 o1 (by omega) (by omega)
    (Lib.hid rfl) (Lib.hid (by omega)) (Lib.hid rfl) (Lib.hid rfl) (Lib.hid rfl)

set_option maxHeartbeats 4000000 in
theorem length_any (y m : Int) (w : World) (h0 : 0 ≤ y) (h1 : y ≤ 100000) (hm : 1 ≤ m) (hm2 : m ≤ 12) :
    Calls Tryd.prog 44 #[.int .i64 y, .int .i64 m] w fun e w' => e = .returned (.int .i64 (Cal.len y m)) ∧ Below w.heap.size w w' := by
  have a : m = 1 ∨ m = 2 ∨ m = 3 ∨ m = 4 ∨ m = 5 ∨ m = 6 ∨ m = 7 ∨ m = 8 ∨ m = 9 ∨ m = 10 ∨ m = 11 ∨ m = 12 := by omega
  rcases a with rfl | rfl | rfl | rfl | rfl | rfl | rfl | rfl | rfl | rfl | rfl | rfl
  all_goals
    go_enter Tryd.func44, Tryd.ntmps44
    go_wp2_with (go_at_call 45; refine (leap_any _ _ (by omega) (by omega)).mono ?_; rintro e w' ⟨rfl, rfl⟩)
    all_goals
      go_ret
      refine ⟨ret_int ?_, by first | exact Below.refl _ _ | exact (Below.refl _ _).alloc (Nat.le_refl _) _⟩
      first | rfl | (unfold Cal.len; rw [Cal.lp_yes ‹_›]; rfl) | (unfold Cal.len; rw [Cal.lp_no ‹_›]; rfl)

end Go.Proofs.YtfldfkipkfpdjaaDoor
