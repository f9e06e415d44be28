/- Joined texts: Walks of the reference's Day and Civil and the program's Civil; Walks of the scan: month, weekday, done; The program's and the reference's Day and Civil, as one function each; Walks of the scan's end, of the third form and of Parse. The conditions stand in each line. -/
import Derived.Test.YtcaekfebnhedpaaGreatDoorM10
import Derived.Test.YtcaekfebnhedpaaGreatDoorM21
import Derived.WalkKit
import Derived.WalkSpells
import Derived.WalkLawsBesides
import Derived.Lib.Hide
import Derived.Deep.Cut
set_option linter.unusedVariables false
set_option linter.unusedSimpArgs false
namespace Go.Proofs.YtcaekfebnhedpaaGreatDoor
open Go.RowKit

theorem results_tmp4 {fn : Func} {t u v x : Tmp} (h : fn.results = #[.tmp t, .tmp u, .tmp v, .tmp x]) (tmps : Array Value) (P : Program) (w : World) :
    (results fn tmps).run P w = .ok (.tuple #[tmps.getD t undef, tmps.getD u undef, tmps.getD v undef, tmps.getD x undef]) w := by simp [results, h]
theorem ret_tup4 {k k2 : IntKind} {a b c a' b' c' d d' : Int} (h : a = a') (h' : b = b') (h'' : c = c') (h4 : d = d') :
    Ending.returned (.tuple #[.int k a, .int k b, .int k c, .int k2 d]) = .returned (.tuple #[.int k a', .int k b', .int k c', .int k2 d']) := by rw [h, h', h'', h4]

theorem hlt_nn {a b : Int} (h : b ≤ a) : 0 ≤ a - b := by omega
def SomeT (P : Int → Int → Int → Prop) (w : World) (e : Ending) (w' : World) : Prop := ∃ y m d : Int, P y m d ∧ e = .returned (.tuple #[.int .i64 y, .int .i64 m, .int .i64 d, .int .i64 0]) ∧ Below w.heap.size w w'

set_option maxHeartbeats 400000 in
theorem rcivil_no (n : Int) (w : World) (hn : ¬ (0 ≤ n ∧ n ≤ 2932896)) :
    Calls Tryz.prog 130 #[.int .i64 n] w fun e w' => e = .returned (.tuple #[.int .i64 0, .int .i64 0, .int .i64 0, .int .i64 20]) ∧ w = w' := by
  go_enter Tryz.func130, Tryz.ntmps130
  go_wp2
  all_goals exact bodyPost_ret (results_tmp4 rfl _ _ _) rfl ⟨rfl, rfl⟩

set_option maxHeartbeats 400000 in
theorem rday_no1 (y m d : Int) (w : World) (h : ¬ (1970 ≤ y ∧ y ≤ 9999 ∧ 1 ≤ m ∧ m ≤ 12 ∧ 1 ≤ d)) :
    Calls Tryz.prog 94 #[.int .i64 y, .int .i64 m, .int .i64 d] w fun e w' => e = .returned (.tuple #[.int .i64 0, .int .i64 20]) ∧ Below w.heap.size w w' := by
  go_enter Tryz.func94, Tryz.ntmps94
  go_wp2
  all_goals
    go_ret2
    exact ⟨rfl, Below.refl _ _⟩
set_option maxHeartbeats 400000 in
theorem rday_no2 (y m d : Int) (w : World) (h : (1970 ≤ y ∧ y ≤ 9999 ∧ 1 ≤ m ∧ m ≤ 12 ∧ 1 ≤ d)) (hd : Cal.len y m < d) :
    Calls Tryz.prog 94 #[.int .i64 y, .int .i64 m, .int .i64 d] w fun e w' => e = .returned (.tuple #[.int .i64 0, .int .i64 20]) ∧ Below w.heap.size w w' := by
  obtain ⟨a1, a2, a3, a4, a5⟩ := h
  go_enter Tryz.func94, Tryz.ntmps94
  go_wp2_with (go_at_call 128; refine (length_any _ _ _ (by omega) (by omega) (by omega) (by omega)).mono ?_; rintro e w' ⟨rfl, hb⟩)
  go_ret2
  exact ⟨rfl, hb⟩

set_option maxHeartbeats 1000000 in
theorem rday_yes (y m d : Int) (w : World) (h : Cal.valid y m d) :
    Calls Tryz.prog 94 #[.int .i64 y, .int .i64 m, .int .i64 d] w fun e w' => e = .returned (.tuple #[.int .i64 (Cal.num y m d), .int .i64 0]) ∧ Below w.heap.size w w' := by
  obtain ⟨a1, a2, a3, a4, a5, a6⟩ := id h
  have hl := Cal.len_bd y m
  go_enter Tryz.func94, Tryz.ntmps94
  go_wp2_with (go_at_call 128; refine (length_any _ _ _ (by omega) (by omega) (by omega) (by omega)).mono ?_; rintro e w' ⟨rfl, hb⟩)
  go_loop [8, 9] (fun s t => ∃ k : Int, 1970 ≤ k ∧ k ≤ y ∧ t = .int .i64 k ∧ s = .int .i64 (d - 1 + Cal.dby k)) (fun _ t => (y - intOf t).toNat)
  case atStart => exact ⟨1970, by omega, by omega, rfl, by rw [Cal.dby_0]; simp⟩
  case round =>
    obtain ⟨k, hk1, hk2, rfl, rfl⟩ := hrel
    have kb := Cal.dby_bd k hk1 (by omega)
    have HS := Lib.hid (Cal.dby_succ k)
    by_cases hlt : k < y
    · go_wp2_with (go_at_call 129; refine (leap_any _ _ (by omega) (by omega)).mono ?_; rintro e w' ⟨rfl, rfl⟩)
      all_goals
        go_round
        case rel => exact ⟨k + 1, by omega, by omega, rfl, by rw [HS.out]; first | (rw [Cal.lp_yes ‹_›]; go_num) | (rw [Cal.lp_no ‹_›]; go_num)⟩
        case measure => simp [intOf]; omega
    · obtain rfl : k = y := by omega
      clear HS
      go_wp2
      go_loopw [8, 10] (fun s t wr => ∃ j : Int, 1 ≤ j ∧ j ≤ m ∧ t = .int .i64 j ∧ s = .int .i64 (d - 1 + Cal.dby k + Cal.dbm k j) ∧ Below w.heap.size w wr) (fun _ t _ => (m - intOf t).toNat)
      case atStart => exact ⟨1, by omega, by omega, rfl, by rw [Cal.dbm_one]; simp, hb⟩
      case round =>
        obtain ⟨j, hj1, hj2, rfl, rfl, hbr⟩ := hrel
        have jb := Cal.dbm_nn k j
        have jt := Cal.dbm_top k j hj1 (by omega)
        have jl := Cal.len_bd k j
        have ll := Cal.lp_bd k
        by_cases hlt : j < m
        · have HS := Lib.hid (Cal.dbm_succ k j hj1 (by omega))
          go_wp2_with (go_at_call 128; refine (length_any _ _ _ (by omega) (by omega) (by omega) (by omega)).mono ?_; rintro e w1 ⟨rfl, hb1⟩)
          go_roundw
          case rel => exact ⟨j + 1, by omega, by omega, rfl, by rw [HS.out]; go_num, hbr.trans (hb1.mono hbr.size)⟩
          case measure => simp [intOf]; omega
        · obtain rfl : j = m := by omega
          go_wp2
          go_ret2
          exact ⟨ret_tup2 (by unfold Cal.num; omega) rfl, hbr⟩


set_option maxHeartbeats 1000000 in
theorem rcivil_yes (n : Int) (w : World) (hn : 0 ≤ n) (hn2 : n ≤ 2932896) :
    Calls Tryz.prog 130 #[.int .i64 n] w fun e w' => SomeT (fun y m d => Cal.valid y m d ∧ Cal.num y m d = n) w e w' := by
  go_enter Tryz.func130, Tryz.ntmps130
  go_wp2
  go_loop [0, 6] (fun r t => ∃ k a : Int, 1970 ≤ k ∧ k ≤ 9999 ∧ 0 ≤ a ∧ a + Cal.dby k = n ∧ t = .int .i64 k ∧ r = .int .i64 a) (fun _ t => (9999 - intOf t).toNat)
  case atStart => exact ⟨1970, n, by omega, by omega, by omega, by rw [Cal.dby_0]; omega, rfl, rfl⟩
  case round =>
    obtain ⟨k, a, hk1, hk2, ha, hsum, rfl, rfl⟩ := hrel
    have HN := Lib.hid hsum
    have kb := Cal.dby_bd k hk1 (by omega)
    have hae : a ≤ 2932896 := by omega
    clear hsum
    have HS := Lib.hid (Cal.dby_succ k)
    have HX : Hid (k = 9999 → Cal.dby (k + 1) = 2932897) := by rintro rfl; decide
    have hc : (Cal.lpB k = true ∧ a < 366 ∨ Cal.lpB k = false ∧ a < 365) ∨ (Cal.lpB k = true ∧ 366 ≤ a ∨ Cal.lpB k = false ∧ 365 ≤ a) := by cases Cal.lpB k <;> simp <;> omega
    rcases hc with hc | hc
    · have hfin : Hid (a < 365 + Cal.lp k) := by rcases hc with ⟨h, h'⟩ | ⟨h, h'⟩; (rw [Cal.lp_yes h]; exact h'); (rw [Cal.lp_no h]; exact h')
      rcases hc with ⟨hl, hlt⟩ | ⟨hl, hlt⟩
      all_goals
        go_wp2_with (go_at_call 129; refine (leap_any _ _ (by omega) (by omega)).mono ?_; rintro e w' ⟨rfl, rfl⟩)
        go_loopw [0, 8] (fun r t wr => ∃ j b : Int, 1 ≤ j ∧ j ≤ 12 ∧ 0 ≤ b ∧ b + Cal.dbm k j = a ∧ t = .int .i64 j ∧ r = .int .i64 b ∧ Below w.heap.size w wr) (fun _ t _ => (12 - intOf t).toNat)
        case atStart => exact ⟨1, a, by omega, by omega, by omega, by rw [Cal.dbm_one]; omega, rfl, rfl, Below.refl _ _⟩
        case round =>
          obtain ⟨j, b, hj1, hj2, hb0, hbs, rfl, rfl, hbr⟩ := hrel
          have jl := Cal.len_bd k j
          have hba : b ≤ 366 := by have := Cal.dbm_nn k j; omega
          have HB := Lib.hid hbs
          clear hbs
          by_cases hlt2 : b < Cal.len k j
          · go_wp2_with (go_at_call 128; refine (length_any _ _ _ (by omega) (by omega) (by omega) (by omega)).mono ?_; rintro e w1 ⟨rfl, hb1⟩)
            exact bodyPost_ret (results_tmp4 rfl _ _ _) rfl ⟨k, j, b + 1, ⟨⟨hk1, hk2, hj1, hj2, by omega, by omega⟩, by have := HB.out; have := HN.out; unfold Cal.num; omega⟩, rfl, hbr.trans (hb1.mono hbr.size)⟩
          · have hj : j < 12 := by
              rcases Int.lt_or_le j 12 with g | g
              · exact g
              · obtain rfl : j = 12 := by omega
                have := Cal.dbm_last k; have := hfin.out; have := HB.out; omega
            have HJ := Lib.hid (Cal.dbm_succ k j hj1 (by omega))
            go_wp2_with (go_at_call 128; refine (length_any _ _ _ (by omega) (by omega) (by omega) (by omega)).mono ?_; rintro e w1 ⟨rfl, hb1⟩; replace hbr := hbr.trans (hb1.mono hbr.size); clear hb1)
            go_roundw
            case rel => exact ⟨j + 1, _, by omega, by omega, hlt_nn (by omega), by have := HB.out; have := HJ.out; omega, rfl, rfl, hbr⟩
            case measure => simp [intOf]; omega
    · have hfin : Hid (365 + Cal.lp k ≤ a) := by rcases hc with ⟨h, h'⟩ | ⟨h, h'⟩; (rw [Cal.lp_yes h]; exact h'); (rw [Cal.lp_no h]; exact h')
      have hk9 : k < 9999 := by
        rcases Int.lt_or_le k 9999 with g | g
        · exact g
        · have := HX.out (by omega); have := HS.out; have := hfin.out; have := HN.out; omega
      rcases hc with ⟨hl, hlt⟩ | ⟨hl, hlt⟩
      all_goals
        go_wp2_with (go_at_call 129; refine (leap_any _ _ (by omega) (by omega)).mono ?_; rintro e w' ⟨rfl, rfl⟩)
        go_round
        case rel => exact ⟨k + 1, _, by omega, by omega, hlt_nn hlt, by have h1 := HS.out; have h2 := HN.out; first | (have h3 := Cal.lp_yes hl; omega) | (have h3 := Cal.lp_no hl; omega), rfl, rfl⟩
        case measure => simp [intOf]; omega
end Go.Proofs.YtcaekfebnhedpaaGreatDoor
set_option linter.unusedVariables false
set_option linter.unusedSimpArgs false
namespace Go.Proofs.YtcaekfebnhedpaaGreatDoor
open Go.RowKit

set_option maxRecDepth 100000
def monS : ByteArray := ⟨#[74, 97, 110, 70, 101, 98, 77, 97, 114, 65, 112, 114, 77, 97, 121, 74, 117, 110, 74, 117, 108, 65, 117, 103, 83, 101, 112, 79, 99, 116, 78, 111, 118, 68, 101, 99]⟩
theorem monS_piece : ∀ i : Fin 12, monS.extract (3 * (i.val + 1) - 3) (3 * (i.val + 1)) = bs (Dt.moN (i.val + 1)) := by decide
/-- No month ahead of place k. -/
theorem monF_at {t : List UInt8} {k : Nat} (hk : k < 12) (hb : ∀ j, j < k → Dt.moN (j + 1) ≠ t) : (Dt.moN (k + 1) = t → Dt.monF t = some k) := by
  intro h
  unfold Dt.monF
  rw [List.find?_eq_some_iff_append]
  refine ⟨by simpa using h, List.range k, (List.range 12).drop (k + 1), ?_, ?_⟩
  · have : ∀ k : Fin 12, List.range 12 = List.range k.val ++ k.val :: (List.range 12).drop (k.val + 1) := by decide
    exact this ⟨k, hk⟩
  · intro j hj
    have := hb j (List.mem_range.1 hj)
    simpa using this
theorem monF_none {t : List UInt8} (hb : ∀ j, j < 12 → Dt.moN (j + 1) ≠ t) : Dt.monF t = none := by
  unfold Dt.monF
  rw [List.find?_eq_none]
  intro j hj
  have := hb j (List.mem_range.1 hj)
  simpa using this
set_option maxHeartbeats 2000000 in
theorem mon_any (b : Nat) (s : List UInt8) (ok : Bool) (w : World) (h : SC w b s ok) (hs : s.length ≤ 4398046511104) :
    Calls Tryz.prog 81 #[.pointer (some ⟨b, 0, none⟩)] w fun e w' => e = .returned (.int .i64 (Dt.mon s ok).1) ∧ SC w' b (Dt.mon s ok).2.1 (Dt.mon s ok).2.2 ∧ w.grownBy w' (some b) := by
  have hC := take_any b 3 s ok w h (by omega) (by omega) hs
  have HL : Hid (Dt.mon s ok = match Dt.monF (Dt.take 3 s ok).1 with | some i => ((i : Int) + 1, (Dt.take 3 s ok).2.1, (Dt.take 3 s ok).2.2) | none => (0, (Dt.take 3 s ok).2.1, false)) := Lib.hid rfl
  generalize Dt.mon s ok = R at *
  generalize Dt.take 3 s ok = r at *
  obtain ⟨t, s', ok'⟩ := r
  dsimp only at *
  go_enter Tryz.func81, Tryz.ntmps81
  go_wp2_with fail
  refine hC.mono ?_
  rintro e w1 ⟨rfl, hs1, hg1⟩
  obtain ⟨c0, c1, f0, f1⟩ := hs1.cells
  clear hC
  go_wp2
  go_loopg [4] 12 (fun r i wr => ∃ k : Nat, k ≤ 12 ∧ r + k = 12 ∧ i = .int .i64 ((k : Int) + 1) ∧ Hid (∀ j, j < k → Dt.moN (j + 1) ≠ t) ∧ wr = w1)
  case atStart => exact ⟨0, by omega, by omega, rfl, Lib.hid (by omega), rfl⟩
  case round =>
    obtain ⟨k, hk, hr, rfl, HB, rfl⟩ := hrel
    obtain ⟨w1, rfl⟩ : ∃ w1, w1 = wr := ⟨_, rfl⟩
    by_cases hlt : k < 12
    · have hp := monS_piece ⟨k, hlt⟩
      dsimp only at hp
      have HP := Lib.hid hp
      clear hp
      have j0 : (0 : Int) ≤ 3 * ((k : Int) + 1) - 3 := by omega
      have j1 : (3 * ((k : Int) + 1) - 3).toNat = 3 * (k + 1) - 3 := by omega
      have j2 : (3 * ((k : Int) + 1)).toNat = 3 * (k + 1) := by omega
      go_upto_region 5 with fail
      go_upto_if 18 with fail
      have hp := HP.out
      unfold monS at hp
      rw [hp, bs_toList]
      clear hp
      cases hmt : Dt.moN (k + 1) == t with
      | true =>
        have HR : Hid (R = ((k : Int) + 1, s', ok')) := Lib.hid (by rw [HL.out, monF_at hlt HB.out (by simpa using hmt)])
        clear hmt HP
        go_wp2
        go_ret
        exact ⟨by rw [HR.out]; rfl, by rw [HR.out]; exact hs1, hg1⟩
      | false =>
        have HBN : Hid (∀ j, j < k + 1 → Dt.moN (j + 1) ≠ t) := Lib.hid fun j hj => by
          rcases Nat.lt_or_ge j k with h1 | h1
          · exact HB.out j h1
          · obtain rfl : j = k := by omega
            simpa using hmt
        clear hmt HP HB
        go_wp2
        go_roundg (12 - (k + 1))
        case measure => omega
        case rel => exact ⟨k + 1, by omega, by omega, by go_num, HBN, rfl⟩
    · obtain rfl : k = 12 := by omega
      have HR : Hid (R = (0, s', false)) := Lib.hid (by rw [HL.out, monF_none HB.out])
      clear HB
      go_wp2
      go_ret
      exact ⟨by rw [HR.out]; rfl, by rw [HR.out]; exact hs1.set1 false, only_set hg1 _ _⟩
def week7 : Value := .agg #[.string (bs (Dt.wkN 0)), .string (bs (Dt.wkN 1)), .string (bs (Dt.wkN 2)), .string (bs (Dt.wkN 3)), .string (bs (Dt.wkN 4)), .string (bs (Dt.wkN 5)), .string (bs (Dt.wkN 6))]
theorem weekdays_any (w : World) : Calls Tryz.prog 110 #[] w fun e w' => e = .returned week7 ∧ Below w.heap.size w w' := by
  go_enter Tryz.func110, Tryz.ntmps110
  go_wp2
  refine bodyPost_ret (v := week7) (by simp [results, Tryz.results110, go_sem]; rfl) rfl ⟨rfl, alloc_below _ _⟩
theorem week_index : ∀ (k : Nat), k < 7 → ∀ W : World, (Instr.index 132 week7 (.int .i64 k)).run Tryz.prog W = .ok (.string (bs (Dt.wkN k))) W := by
  intro k hk W
  have hc : k = 0 ∨ k = 1 ∨ k = 2 ∨ k = 3 ∨ k = 4 ∨ k = 5 ∨ k = 6 := by omega
  rcases hc with rfl | rfl | rfl | rfl | rfl | rfl | rfl <;> rfl
theorem weekF_at {b : Bool} {s : List UInt8} {k : Nat} (hk : k < 7) (hb : ∀ j, j < k → (Dt.nm b j).isPrefixOf s = false) (h : (Dt.nm b k).isPrefixOf s = true) : Dt.weekF b s = some k := by
  unfold Dt.weekF
  rw [List.find?_eq_some_iff_append]
  refine ⟨by simpa using h, List.range k, (List.range 7).drop (k + 1), ?_, ?_⟩
  · have : ∀ k : Fin 7, List.range 7 = List.range k.val ++ k.val :: (List.range 7).drop (k.val + 1) := by decide
    exact this ⟨k, hk⟩
  · intro j hj
    have := hb j (List.mem_range.1 hj)
    simpa using this
theorem weekF_none {b : Bool} {s : List UInt8} (hb : ∀ j, j < 7 → (Dt.nm b j).isPrefixOf s = false) : Dt.weekF b s = none := by
  unfold Dt.weekF
  rw [List.find?_eq_none]
  intro j hj
  have := hb j (List.mem_range.1 hj)
  rw [this]
  simp
theorem preB_is (p s : List UInt8) : preB p s = p.isPrefixOf s := by
  unfold preB
  rw [Bool.eq_iff_iff, List.isPrefixOf_iff_prefix, beq_iff_eq]
  constructor
  · intro h
    rw [← h]
    exact List.take_prefix _ _
  · intro h
    exact (List.prefix_iff_eq_take.1 h).symm
theorem wk_len (k : Nat) (hk : k < 7) : 6 ≤ (Dt.wkN k).length ∧ (Dt.wkN k).length ≤ 9 := (Dt.nm_comma ⟨k, hk⟩).2.2.2
set_option maxHeartbeats 4000000 in
theorem week_any (b : Nat) (whole : Bool) (s : List UInt8) (ok : Bool) (w : World) (h : SC w b s ok) (hs : s.length ≤ 4398046511104) :
    Calls Tryz.prog 78 #[.pointer (some ⟨b, 0, none⟩), .bool whole] w fun e w' => e = .returned (.int .i64 (Dt.week whole s ok).1) ∧ SC w' b (Dt.week whole s ok).2.1 (Dt.week whole s ok).2.2 ∧ w.grownBy w' (some b) := by
  have HL : Hid (Dt.week whole s ok = match Dt.weekF whole s with | some i => ((i : Int), s.drop (Dt.nm whole i).length, ok) | none => (0, s, false)) := Lib.hid rfl
  generalize Dt.week whole s ok = R at *
  go_enter Tryz.func78, Tryz.ntmps78
  go_wp2_with fail
  refine (weekdays_any _).mono ?_
  rintro e w1 ⟨rfl, hb1⟩
  have hs1 := h.step hb1
  have hg1 : w.grownBy w1 (some b) := only_below (only_refl _ _) hb1
  obtain ⟨c0, c1, f0, f1⟩ := hs1.cells
  clear hb1 h
  generalize hwk : week7 = WK at *
  have HWK := Lib.hid hwk
  clear hwk
  go_wp2
  go_loopg [10] 7 (fun r i wr => ∃ k : Nat, k ≤ 7 ∧ r + k = 7 ∧ i = .int .i64 (k : Int) ∧ Hid (∀ j, j < k → (Dt.nm whole j).isPrefixOf s = false) ∧ wr = w1)
  case atStart => exact ⟨0, by omega, by omega, rfl, Lib.hid (by omega), rfl⟩
  case round =>
    obtain ⟨k, hk, hr, rfl, HB, rfl⟩ := hrel
    obtain ⟨w1, rfl⟩ : ∃ w1, w1 = wr := ⟨_, rfl⟩
    by_cases hlt : k < 7
    · have hix := week_index k hlt
      rw [HWK.out] at hix
      obtain ⟨l1, l2⟩ := wk_len k hlt
      have HNM : Hid (Dt.nm whole k = if whole = true then Dt.wkN k else (Dt.wkN k).take 3) := Lib.hid rfl
      have k0 : (0 : Int) ≤ (k : Int) := by omega
      have k1 : (k : Int) < 7 := by omega
      have HWF := Lib.hid (fun q => weekF_at (b := whole) (s := s) hlt HB.out q)
      generalize Dt.wkN k = nmk at *
      go_upto_if 15 with fail
      go_cut [6] (fun v wc => v = .string (bs (Dt.nm whole k)) ∧ w1 = wc)
      case first =>
        cases whole with
        | true =>
          go_wp2
          go_meet
          case rel => exact ⟨by rw [HNM.out]; rfl, rfl⟩
        | false =>
          go_wp2
          go_meet
          case rel => exact ⟨by rw [HNM.out]; simp, rfl⟩
      case rest =>
        obtain ⟨rfl, rfl⟩ := hcut
        clear hix
        have hnl : (Dt.nm whole k).length ≤ 9 := by rw [HNM.out]; split <;> (try simp) <;> omega
        have hC := cutPrefix_any s (Dt.nm whole k)
        have hCU : Hid (cutP (Dt.nm whole k) s = if preB (Dt.nm whole k) s = true then s.drop (Dt.nm whole k).length else s) := Lib.hid rfl
        rw [preB_is] at hCU
        simp only [preB_is] at hC
        clear HNM
        generalize hnm : Dt.nm whole k = nk at *
        have HNK := Lib.hid hnm
        clear hnm
        go_wp2_with fail
        refine (hC _ (by omega) (by omega)).mono ?_
        rintro e w2 ⟨rfl, rfl⟩
        clear hC
        cases hp : nk.isPrefixOf s with
        | true =>
          have hR : R = ((k : Int), s.drop nk.length, ok) := by rw [HL.out, HWF.out hp]; dsimp only; rw [HNK.out]
          have HR := Lib.hid hR
          rw [hp] at hCU
          have hcp : cutP nk s = s.drop nk.length := by rw [hCU.out, if_pos rfl]
          rw [hcp]
          clear hR hp HWF hCU hcp HB
          go_wp2
          go_ret
          exact ⟨by rw [HR.out]; rfl, by rw [HR.out]; exact hs1.set0 _, only_set hg1 _ _⟩
        | false =>
          have HBN : Hid (∀ j, j < k + 1 → (Dt.nm whole j).isPrefixOf s = false) := Lib.hid fun j hj => by
            rcases Nat.lt_or_ge j k with h1 | h1
            · exact HB.out j h1
            · obtain rfl : j = k := by omega
              rw [HNK.out]; exact hp
          clear hp HWF hCU HB
          go_wp2
          go_roundg (7 - (k + 1))
          case measure => omega
          case rel => exact ⟨k + 1, by omega, by omega, by go_num, HBN, rfl⟩
    · obtain rfl : k = 7 := by omega
      have HR : Hid (R = (0, s, false)) := Lib.hid (by rw [HL.out, weekF_none HB.out])
      clear HB
      go_wp2
      go_ret
      exact ⟨by rw [HR.out]; rfl, by rw [HR.out]; exact hs1.set1 false, only_set hg1 _ _⟩
end Go.Proofs.YtcaekfebnhedpaaGreatDoor
set_option linter.unusedVariables false
set_option linter.unusedSimpArgs false
namespace Go.Proofs.YtcaekfebnhedpaaGreatDoor
open Go.RowKit

def TheDay (y m d : Int) : Int × Int := if Cal.valid y m d then (Cal.num y m d, 0) else (0, 20)
theorem day_p (y m d : Int) (w : World) : Calls Tryz.prog 113 #[.int .i64 y, .int .i64 m, .int .i64 d] w fun e w' => e = .returned (.tuple #[.int .i64 (TheDay y m d).1, .int .i64 (TheDay y m d).2]) ∧ w = w' := by
  by_cases h : Cal.valid y m d
  · simp only [TheDay, if_pos h]; exact day_yes y m d w h
  · simp only [TheDay, if_neg h]; exact day_no y m d w h
theorem day_r (y m d : Int) (w : World) : Calls Tryz.prog 94 #[.int .i64 y, .int .i64 m, .int .i64 d] w fun e w' => e = .returned (.tuple #[.int .i64 (TheDay y m d).1, .int .i64 (TheDay y m d).2]) ∧ Below w.heap.size w w' := by
  by_cases h : Cal.valid y m d
  · simp only [TheDay, if_pos h]; exact rday_yes y m d w h
  · simp only [TheDay, if_neg h]
    by_cases h1 : 1970 ≤ y ∧ y ≤ 9999 ∧ 1 ≤ m ∧ m ≤ 12 ∧ 1 ≤ d
    · exact rday_no2 y m d w h1 (by rcases Int.lt_or_le (Cal.len y m) d with g | g; exact g; exact absurd ⟨h1.1, h1.2.1, h1.2.2.1, h1.2.2.2.1, h1.2.2.2.2, g⟩ h)
    · exact rday_no1 y m d w h1
def tcA (n : Int) : Int × Int × Int × Int := if 0 ≤ n ∧ n ≤ 2932896 then (Cal.tcY ((n + 719468) / 146097) ((n + 719468) % 146097), Cal.tcM ((n + 719468) % 146097), Cal.tcD ((n + 719468) % 146097), 0) else (0, 0, 0, 20)
theorem civil_r (n : Int) (w : World) : Calls Tryz.prog 130 #[.int .i64 n] w fun e w' => e = .returned (.tuple #[.int .i64 (tcA n).1, .int .i64 (tcA n).2.1, .int .i64 (tcA n).2.2.1, .int .i64 (tcA n).2.2.2]) ∧ Below w.heap.size w w' := by
  by_cases h : 0 ≤ n ∧ n ≤ 2932896
  · simp only [tcA, if_pos h]
    refine (rcivil_yes n w h.1 h.2).mono ?_
    rintro e w' ⟨y, m, d, ⟨hv, hn⟩, rfl, hb⟩
    obtain ⟨_, _, _, t4, t5⟩ := Cal.tc_all n h.1 (by omega)
    obtain ⟨rfl, rfl, rfl⟩ := Cal.num_inj _ _ _ _ _ _ hv (t4 h.2) (by rw [hn, t5])
    exact ⟨rfl, hb⟩
  · simp only [tcA, if_neg h]; exact (rcivil_no n w h).mono fun _ _ ⟨he, hw⟩ => ⟨he, by subst hw; exact Below.refl _ _⟩

end Go.Proofs.YtcaekfebnhedpaaGreatDoor
set_option linter.unusedVariables false
set_option linter.unusedSimpArgs false
namespace Go.Proofs.YtcaekfebnhedpaaGreatDoor
open Go.RowKit

set_option maxRecDepth 100000
theorem theDay_yes {y m d : Int} (h : Cal.valid y m d) : TheDay y m d = (Cal.num y m d, 0) := by unfold TheDay; rw [if_pos h]
theorem theDay_no {y m d : Int} (h : ¬ Cal.valid y m d) : TheDay y m d = (0, 20) := by unfold TheDay; rw [if_neg h]
set_option maxHeartbeats 2000000 in
theorem done_any (b : Nat) (wd y m d r : Int) (s : List UInt8) (ok : Bool) (w : World) (h : SC w b s ok) (hs : s.length ≤ 4398046511104) (hr0 : 0 ≤ r) (hr1 : r ≤ 1000000) :
    Calls Tryz.prog 83 #[.pointer (some ⟨b, 0, none⟩), .int .i64 wd, .int .i64 y, .int .i64 m, .int .i64 d, .int .i64 r] w fun e w' => e = .returned (.tuple #[.int .i64 (Dt.doneV wd y m d r s ok).1, .int .i64 (Dt.doneV wd y m d r s ok).2]) ∧ w = w' := by
  have HL : Hid (Dt.doneV wd y m d r s ok = if ok = true ∧ s = [] ∧ Cal.valid y m d ∧ Cal.num y m d % 7 = wd then (Cal.num y m d * 86400 + r, 0) else (0, 20)) := Lib.hid rfl
  generalize Dt.doneV wd y m d r s ok = R at *
  have hD := day_p y m d w
  obtain ⟨c0, c1, f0, f1⟩ := h.cells
  clear h
  by_cases hv : Cal.valid y m d
  · rw [theDay_yes hv] at hD
    dsimp only at hD
    obtain ⟨n0, n1⟩ := Dt.num_bd2 hv
    have HV := Lib.hid hv
    clear hv
    generalize Cal.num y m d = n at *
    go_enter Tryz.func83, Tryz.ntmps83
    go_wp2_with fail
    refine hD.mono ?_
    rintro e w1 ⟨rfl, rfl⟩
    clear hD
    cases ok with
    | false =>
      have HR : Hid (R = (0, 20)) := Lib.hid (by rw [HL.out, if_neg (by simp)])
      clear HL
      go_wp2
      go_ret2
      exact ⟨by rw [HR.out]; rfl, rfl⟩
    | true =>
      cases s with
      | cons q t =>
        have HR : Hid (R = (0, 20)) := Lib.hid (by rw [HL.out, if_neg (by simp)])
        clear HL
        go_wp2
        go_ret2
        exact ⟨by rw [HR.out]; rfl, rfl⟩
      | nil =>
        by_cases hw : n % 7 = wd
        · have HR : Hid (R = (n * 86400 + r, 0)) := Lib.hid (by rw [HL.out, if_pos ⟨rfl, rfl, HV.out, hw⟩])
          have hne : (n % 7 != wd) = false := by simp [hw]
          clear HL hw
          go_wp2
          go_ret2
          exact ⟨by rw [HR.out]; rfl, rfl⟩
        · have HR : Hid (R = (0, 20)) := Lib.hid (by rw [HL.out, if_neg (fun h => hw h.2.2.2)])
          have hne : (n % 7 != wd) = true := by simp [hw]
          clear HL hw
          go_wp2
          go_ret2
          exact ⟨by rw [HR.out]; rfl, rfl⟩
  · rw [theDay_no hv] at hD
    dsimp only at hD
    have HR : Hid (R = (0, 20)) := Lib.hid (by rw [HL.out, if_neg (fun h => hv h.2.2.1)])
    clear hv HL
    go_enter Tryz.func83, Tryz.ntmps83
    go_wp2_with fail
    refine hD.mono ?_
    rintro e w1 ⟨rfl, rfl⟩
    clear hD
    cases ok with
    | false =>
      go_wp2
      go_ret2
      exact ⟨by rw [HR.out]; rfl, rfl⟩
    | true =>
      cases s with
      | cons q t =>
        go_wp2
        go_ret2
        exact ⟨by rw [HR.out]; rfl, rfl⟩
      | nil =>
        go_wp2
        go_ret2
        exact ⟨by rw [HR.out]; rfl, rfl⟩
end Go.Proofs.YtcaekfebnhedpaaGreatDoor
