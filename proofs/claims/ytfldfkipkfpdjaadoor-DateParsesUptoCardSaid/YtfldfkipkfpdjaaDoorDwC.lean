/- Walks of the reference's Day and Civil and the program's Civil. -/
import Derived.Test.YtfldfkipkfpdjaaDoorDwB
import Derived.WalkKit
import Derived.WalkSpells
import Derived.WalkLawsBesides
import Derived.Lib.Hide
import Derived.Deep.Cut
set_option linter.unusedVariables false
set_option linter.unusedSimpArgs false
namespace Go.Proofs.YtfldfkipkfpdjaaDoor
open Go.RowKit

theorem results_tmp4 {fn : Func} {t u v x : Tmp} (h : fn.results = #[.tmp t, .tmp u, .tmp v, .tmp x]) (tmps : Array Value) (P : Program) (w : World) :
    (results fn tmps).run P w = .ok (.tuple #[tmps.getD t undef, tmps.getD u undef, tmps.getD v undef, tmps.getD x undef]) w := by simp [results, h]
theorem ret_tup4 {k k2 : IntKind} {a b c a' b' c' d d' : Int} (h : a = a') (h' : b = b') (h'' : c = c') (h4 : d = d') :
    Ending.returned (.tuple #[.int k a, .int k b, .int k c, .int k2 d]) = .returned (.tuple #[.int k a', .int k b', .int k c', .int k2 d']) := by rw [h, h', h'', h4]

theorem hlt_nn {a b : Int} (h : b ≤ a) : 0 ≤ a - b := by omega
def SomeT (P : Int → Int → Int → Prop) (w : World) (e : Ending) (w' : World) : Prop := ∃ y m d : Int, P y m d ∧ e = .returned (.tuple #[.int .i64 y, .int .i64 m, .int .i64 d, .int .i64 0]) ∧ Below w.heap.size w w'

set_option maxHeartbeats 400000 in
theorem civil_yes (n : Int) (w : World) (hn : 0 ≤ n) (hn2 : n ≤ 2932896) :
    Calls Tryd.prog 14 #[.int .i64 n] w fun e w' => e = .returned (.tuple #[.int .i64 (Cal.tcY ((n + 719468) / 146097) ((n + 719468) % 146097)), .int .i64 (Cal.tcM ((n + 719468) % 146097)), .int .i64 (Cal.tcD ((n + 719468) % 146097)), .int .i64 0]) ∧ w = w' := by
  go_enter Tryd.func14, Tryd.ntmps14
  go_wp2_with (go_at_call 16; refine (toCivil_any _ _ (by omega) (by omega)).mono ?_; rintro e w' ⟨rfl, rfl⟩)
  exact bodyPost_ret (results_tmp4 rfl _ _ _) rfl ⟨rfl, rfl⟩

set_option maxHeartbeats 400000 in
theorem civil_no (n : Int) (w : World) (hn : ¬ (0 ≤ n ∧ n ≤ 2932896)) :
    Calls Tryd.prog 14 #[.int .i64 n] w fun e w' => e = .returned (.tuple #[.int .i64 0, .int .i64 0, .int .i64 0, .int .i64 20]) ∧ w = w' := by
  go_enter Tryd.func14, Tryd.ntmps14
  go_wp2
  all_goals exact bodyPost_ret (results_tmp4 rfl _ _ _) rfl ⟨rfl, rfl⟩

set_option maxHeartbeats 400000 in
theorem rcivil_no (n : Int) (w : World) (hn : ¬ (0 ≤ n ∧ n ≤ 2932896)) :
    Calls Tryd.prog 35 #[.int .i64 n] w fun e w' => e = .returned (.tuple #[.int .i64 0, .int .i64 0, .int .i64 0, .int .i64 20]) ∧ w = w' := by
  go_enter Tryd.func35, Tryd.ntmps35
  go_wp2
  all_goals exact bodyPost_ret (results_tmp4 rfl _ _ _) rfl ⟨rfl, rfl⟩

set_option maxHeartbeats 400000 in
theorem rday_no1 (y m d : Int) (w : World) (h : ¬ (1970 ≤ y ∧ y ≤ 9999 ∧ 1 ≤ m ∧ m ≤ 12 ∧ 1 ≤ d)) :
    Calls Tryd.prog 31 #[.int .i64 y, .int .i64 m, .int .i64 d] w fun e w' => e = .returned (.tuple #[.int .i64 0, .int .i64 20]) ∧ Below w.heap.size w w' := by
  go_enter Tryd.func31, Tryd.ntmps31
  go_wp2
  all_goals
    go_ret2
    exact ⟨rfl, Below.refl _ _⟩
set_option maxHeartbeats 400000 in
theorem rday_no2 (y m d : Int) (w : World) (h : (1970 ≤ y ∧ y ≤ 9999 ∧ 1 ≤ m ∧ m ≤ 12 ∧ 1 ≤ d)) (hd : Cal.len y m < d) :
    Calls Tryd.prog 31 #[.int .i64 y, .int .i64 m, .int .i64 d] w fun e w' => e = .returned (.tuple #[.int .i64 0, .int .i64 20]) ∧ Below w.heap.size w w' := by
  obtain ⟨a1, a2, a3, a4, a5⟩ := h
  go_enter Tryd.func31, Tryd.ntmps31
  go_wp2_with (go_at_call 44; refine (length_any _ _ _ (by omega) (by omega) (by omega) (by omega)).mono ?_; rintro e w' ⟨rfl, hb⟩)
  go_ret2
  exact ⟨rfl, hb⟩

set_option maxHeartbeats 1000000 in
theorem rday_yes (y m d : Int) (w : World) (h : Cal.valid y m d) :
    Calls Tryd.prog 31 #[.int .i64 y, .int .i64 m, .int .i64 d] w fun e w' => e = .returned (.tuple #[.int .i64 (Cal.num y m d), .int .i64 0]) ∧ Below w.heap.size w w' := by
  obtain ⟨a1, a2, a3, a4, a5, a6⟩ := id h
  have hl := Cal.len_bd y m
  go_enter Tryd.func31, Tryd.ntmps31
  go_wp2_with (go_at_call 44; refine (length_any _ _ _ (by omega) (by omega) (by omega) (by omega)).mono ?_; rintro e w' ⟨rfl, hb⟩)
  go_loop [8, 9] (fun s t => ∃ k : Int, 1970 ≤ k ∧ k ≤ y ∧ t = .int .i64 k ∧ s = .int .i64 (d - 1 + Cal.dby k)) (fun _ t => (y - intOf t).toNat)
  case atStart => exact ⟨1970, by omega, by omega, rfl, by rw [Cal.dby_0]; simp⟩
  case round =>
    obtain ⟨k, hk1, hk2, rfl, rfl⟩ := hrel
    have kb := Cal.dby_bd k hk1 (by omega)
    have HS := Lib.hid (Cal.dby_succ k)
    by_cases hlt : k < y
    · go_wp2_with (go_at_call 45; refine (leap_any _ _ (by omega) (by omega)).mono ?_; rintro e w' ⟨rfl, rfl⟩)
      all_goals
        go_round
        case rel => exact ⟨k + 1, by omega, by omega, rfl, by rw [HS.out]; first | (rw [Cal.lp_yes ‹_›]; go_num) | (rw [Cal.lp_no ‹_›]; go_num)⟩
        case measure => simp [intOf]; omega
    · obtain rfl : k = y := by omega
      clear HS
      go_wp2
      go_loopw [8, 10] (fun s t wr => ∃ j : Int, 1 ≤ j ∧ j ≤ m ∧ t = .int .i64 j ∧ s = .int .i64 (d - 1 + Cal.dby k + Cal.dbm k j) ∧ Below w.heap.size w wr) (fun _ t _ => (m - intOf t).toNat)
      case atStart => exact ⟨1, by omega, by omega, rfl, by rw [Cal.dbm_one]; simp, hb⟩
      case round =>
        obtain ⟨j, hj1, hj2, rfl, rfl, hbr⟩ := hrel
        have jb := Cal.dbm_nn k j
        have jt := Cal.dbm_top k j hj1 (by omega)
        have jl := Cal.len_bd k j
        have ll := Cal.lp_bd k
        by_cases hlt : j < m
        · have HS := Lib.hid (Cal.dbm_succ k j hj1 (by omega))
          go_wp2_with (go_at_call 44; refine (length_any _ _ _ (by omega) (by omega) (by omega) (by omega)).mono ?_; rintro e w1 ⟨rfl, hb1⟩)
          go_roundw
          case rel => exact ⟨j + 1, by omega, by omega, rfl, by rw [HS.out]; go_num, hbr.trans (hb1.mono hbr.size)⟩
          case measure => simp [intOf]; omega
        · obtain rfl : j = m := by omega
          go_wp2
          go_ret2
          exact ⟨ret_tup2 (by unfold Cal.num; omega) rfl, hbr⟩


set_option maxHeartbeats 1000000 in
theorem rcivil_yes (n : Int) (w : World) (hn : 0 ≤ n) (hn2 : n ≤ 2932896) :
    Calls Tryd.prog 35 #[.int .i64 n] w fun e w' => SomeT (fun y m d => Cal.valid y m d ∧ Cal.num y m d = n) w e w' := by
  go_enter Tryd.func35, Tryd.ntmps35
  go_wp2
  go_loop [0, 6] (fun r t => ∃ k a : Int, 1970 ≤ k ∧ k ≤ 9999 ∧ 0 ≤ a ∧ a + Cal.dby k = n ∧ t = .int .i64 k ∧ r = .int .i64 a) (fun _ t => (9999 - intOf t).toNat)
  case atStart => exact ⟨1970, n, by omega, by omega, by omega, by rw [Cal.dby_0]; omega, rfl, rfl⟩
  case round =>
    obtain ⟨k, a, hk1, hk2, ha, hsum, rfl, rfl⟩ := hrel
    have HN := Lib.hid hsum
    have kb := Cal.dby_bd k hk1 (by omega)
    have hae : a ≤ 2932896 := by omega
    clear hsum
    have HS := Lib.hid (Cal.dby_succ k)
    have HX : Hid (k = 9999 → Cal.dby (k + 1) = 2932897) := by rintro rfl; decide
    have hc : (Cal.lpB k = true ∧ a < 366 ∨ Cal.lpB k = false ∧ a < 365) ∨ (Cal.lpB k = true ∧ 366 ≤ a ∨ Cal.lpB k = false ∧ 365 ≤ a) := by cases Cal.lpB k <;> simp <;> omega
    rcases hc with hc | hc
    · have hfin : Hid (a < 365 + Cal.lp k) := by rcases hc with ⟨h, h'⟩ | ⟨h, h'⟩; (rw [Cal.lp_yes h]; exact h'); (rw [Cal.lp_no h]; exact h')
      rcases hc with ⟨hl, hlt⟩ | ⟨hl, hlt⟩
      all_goals
        go_wp2_with (go_at_call 45; refine (leap_any _ _ (by omega) (by omega)).mono ?_; rintro e w' ⟨rfl, rfl⟩)
        go_loopw [0, 8] (fun r t wr => ∃ j b : Int, 1 ≤ j ∧ j ≤ 12 ∧ 0 ≤ b ∧ b + Cal.dbm k j = a ∧ t = .int .i64 j ∧ r = .int .i64 b ∧ Below w.heap.size w wr) (fun _ t _ => (12 - intOf t).toNat)
        case atStart => exact ⟨1, a, by omega, by omega, by omega, by rw [Cal.dbm_one]; omega, rfl, rfl, Below.refl _ _⟩
        case round =>
          obtain ⟨j, b, hj1, hj2, hb0, hbs, rfl, rfl, hbr⟩ := hrel
          have jl := Cal.len_bd k j
          have hba : b ≤ 366 := by have := Cal.dbm_nn k j; omega
          have HB := Lib.hid hbs
          clear hbs
          by_cases hlt2 : b < Cal.len k j
          · go_wp2_with (go_at_call 44; refine (length_any _ _ _ (by omega) (by omega) (by omega) (by omega)).mono ?_; rintro e w1 ⟨rfl, hb1⟩)
            exact bodyPost_ret (results_tmp4 rfl _ _ _) rfl ⟨k, j, b + 1, ⟨⟨hk1, hk2, hj1, hj2, by omega, by omega⟩, by have := HB.out; have := HN.out; unfold Cal.num; omega⟩, rfl, hbr.trans (hb1.mono hbr.size)⟩
          · have hj : j < 12 := by
              rcases Int.lt_or_le j 12 with g | g
              · exact g
              · obtain rfl : j = 12 := by omega
                have := Cal.dbm_last k; have := hfin.out; have := HB.out; omega
            have HJ := Lib.hid (Cal.dbm_succ k j hj1 (by omega))
            go_wp2_with (go_at_call 44; refine (length_any _ _ _ (by omega) (by omega) (by omega) (by omega)).mono ?_; rintro e w1 ⟨rfl, hb1⟩; replace hbr := hbr.trans (hb1.mono hbr.size); clear hb1)
            go_roundw
            case rel => exact ⟨j + 1, _, by omega, by omega, hlt_nn (by omega), by have := HB.out; have := HJ.out; omega, rfl, rfl, hbr⟩
            case measure => simp [intOf]; omega
    · have hfin : Hid (365 + Cal.lp k ≤ a) := by rcases hc with ⟨h, h'⟩ | ⟨h, h'⟩; (rw [Cal.lp_yes h]; exact h'); (rw [Cal.lp_no h]; exact h')
      have hk9 : k < 9999 := by
        rcases Int.lt_or_le k 9999 with g | g
        · exact g
        · have := HX.out (by omega); have := HS.out; have := hfin.out; have := HN.out; omega
      rcases hc with ⟨hl, hlt⟩ | ⟨hl, hlt⟩
      all_goals
        go_wp2_with (go_at_call 45; refine (leap_any _ _ (by omega) (by omega)).mono ?_; rintro e w' ⟨rfl, rfl⟩)
        go_round
        case rel => exact ⟨k + 1, _, by omega, by omega, hlt_nn hlt, by have h1 := HS.out; have h2 := HN.out; first | (have h3 := Cal.lp_yes hl; omega) | (have h3 := Cal.lp_no hl; omega), rfl, rfl⟩
        case measure => simp [intOf]; omega
end Go.Proofs.YtfldfkipkfpdjaaDoor
