/- Walks of the scan: month, weekday, done. Conditions: the text's length at most 2^40; the numbers' bounds. -/
import Derived.Test.YtfldfkipkfpdjaaDoorDtS
import Derived.Test.YtfldfkipkfpdjaaDoorDwC
import Derived.Test.YtfldfkipkfpdjaaDoorPre
set_option linter.unusedVariables false
set_option linter.unusedSimpArgs false
namespace Go.Proofs.YtfldfkipkfpdjaaDoor
open Go.RowKit

set_option maxRecDepth 100000
def monS : ByteArray := ⟨#[74, 97, 110, 70, 101, 98, 77, 97, 114, 65, 112, 114, 77, 97, 121, 74, 117, 110, 74, 117, 108, 65, 117, 103, 83, 101, 112, 79, 99, 116, 78, 111, 118, 68, 101, 99]⟩
theorem monS_piece : ∀ i : Fin 12, monS.extract (3 * (i.val + 1) - 3) (3 * (i.val + 1)) = bs (Dt.moN (i.val + 1)) := by decide
/-- No month ahead of place k. -/
theorem monF_at {t : List UInt8} {k : Nat} (hk : k < 12) (hb : ∀ j, j < k → Dt.moN (j + 1) ≠ t) : (Dt.moN (k + 1) = t → Dt.monF t = some k) := by
  intro h
  unfold Dt.monF
  rw [List.find?_eq_some_iff_append]
  refine ⟨by simpa using h, List.range k, (List.range 12).drop (k + 1), ?_, ?_⟩
  · have : ∀ k : Fin 12, List.range 12 = List.range k.val ++ k.val :: (List.range 12).drop (k.val + 1) := by decide
    exact this ⟨k, hk⟩
  · intro j hj
    have := hb j (List.mem_range.1 hj)
    simpa using this
theorem monF_none {t : List UInt8} (hb : ∀ j, j < 12 → Dt.moN (j + 1) ≠ t) : Dt.monF t = none := by
  unfold Dt.monF
  rw [List.find?_eq_none]
  intro j hj
  have := hb j (List.mem_range.1 hj)
  simpa using this
set_option maxHeartbeats 2000000 in
theorem mon_any (b : Nat) (s : List UInt8) (ok : Bool) (w : World) (h : SC w b s ok) (hs : s.length ≤ 1099511627776) :
    Calls Tryd.prog 25 #[.pointer (some ⟨b, 0, none⟩)] w fun e w' => e = .returned (.int .i64 (Dt.mon s ok).1) ∧ SC w' b (Dt.mon s ok).2.1 (Dt.mon s ok).2.2 ∧ w.grownBy w' (some b) := by
  have hC := take_any b 3 s ok w h (by omega) (by omega) hs
  have HL : Hid (Dt.mon s ok = match Dt.monF (Dt.take 3 s ok).1 with | some i => ((i : Int) + 1, (Dt.take 3 s ok).2.1, (Dt.take 3 s ok).2.2) | none => (0, (Dt.take 3 s ok).2.1, false)) := Lib.hid rfl
  generalize Dt.mon s ok = R at *
  generalize Dt.take 3 s ok = r at *
  obtain ⟨t, s', ok'⟩ := r
  dsimp only at *
  go_enter Tryd.func25, Tryd.ntmps25
  go_wp2_with fail
  refine hC.mono ?_
  rintro e w1 ⟨rfl, hs1, hg1⟩
  obtain ⟨c0, c1, f0, f1⟩ := hs1.cells
  clear hC
  go_wp2
  go_loopg [4] 12 (fun r i wr => ∃ k : Nat, k ≤ 12 ∧ r + k = 12 ∧ i = .int .i64 ((k : Int) + 1) ∧ Hid (∀ j, j < k → Dt.moN (j + 1) ≠ t) ∧ wr = w1)
  case atStart => exact ⟨0, by omega, by omega, rfl, Lib.hid (by omega), rfl⟩
  case round =>
    obtain ⟨k, hk, hr, rfl, HB, rfl⟩ := hrel
    obtain ⟨w1, rfl⟩ : ∃ w1, w1 = wr := ⟨_, rfl⟩
    by_cases hlt : k < 12
    · have hp := monS_piece ⟨k, hlt⟩
      dsimp only at hp
      have HP := Lib.hid hp
      clear hp
      have j0 : (0 : Int) ≤ 3 * ((k : Int) + 1) - 3 := by omega
      have j1 : (3 * ((k : Int) + 1) - 3).toNat = 3 * (k + 1) - 3 := by omega
      have j2 : (3 * ((k : Int) + 1)).toNat = 3 * (k + 1) := by omega
      go_upto_region 5 with fail
      go_upto_if 18 with fail
      have hp := HP.out
      unfold monS at hp
      rw [hp, bs_toList]
      clear hp
      cases hmt : Dt.moN (k + 1) == t with
      | true =>
        have HR : Hid (R = ((k : Int) + 1, s', ok')) := Lib.hid (by rw [HL.out, monF_at hlt HB.out (by simpa using hmt)])
        clear hmt HP
        go_wp2
        go_ret
        exact ⟨by rw [HR.out]; rfl, by rw [HR.out]; exact hs1, hg1⟩
      | false =>
        have HBN : Hid (∀ j, j < k + 1 → Dt.moN (j + 1) ≠ t) := Lib.hid fun j hj => by
          rcases Nat.lt_or_ge j k with h1 | h1
          · exact HB.out j h1
          · obtain rfl : j = k := by omega
            simpa using hmt
        clear hmt HP HB
        go_wp2
        go_roundg (12 - (k + 1))
        case measure => omega
        case rel => exact ⟨k + 1, by omega, by omega, by go_num, HBN, rfl⟩
    · obtain rfl : k = 12 := by omega
      have HR : Hid (R = (0, s', false)) := Lib.hid (by rw [HL.out, monF_none HB.out])
      clear HB
      go_wp2
      go_ret
      exact ⟨by rw [HR.out]; rfl, by rw [HR.out]; exact hs1.set1 false, only_set hg1 _ _⟩
def week7 : Value := .agg #[.string (bs (Dt.wkN 0)), .string (bs (Dt.wkN 1)), .string (bs (Dt.wkN 2)), .string (bs (Dt.wkN 3)), .string (bs (Dt.wkN 4)), .string (bs (Dt.wkN 5)), .string (bs (Dt.wkN 6))]
theorem weekdays_any (w : World) : Calls Tryd.prog 17 #[] w fun e w' => e = .returned week7 ∧ Below w.heap.size w w' := by
  go_enter Tryd.func17, Tryd.ntmps17
  go_wp2
  refine bodyPost_ret (v := week7) (by simp [results, Tryd.results17, go_sem]; rfl) rfl ⟨rfl, alloc_below _ _⟩
theorem week_index : ∀ (k : Nat), k < 7 → ∀ W : World, (Instr.index 37 week7 (.int .i64 k)).run Tryd.prog W = .ok (.string (bs (Dt.wkN k))) W := by
  intro k hk W
  have hc : k = 0 ∨ k = 1 ∨ k = 2 ∨ k = 3 ∨ k = 4 ∨ k = 5 ∨ k = 6 := by omega
  rcases hc with rfl | rfl | rfl | rfl | rfl | rfl | rfl <;> rfl
theorem weekF_at {b : Bool} {s : List UInt8} {k : Nat} (hk : k < 7) (hb : ∀ j, j < k → (Dt.nm b j).isPrefixOf s = false) (h : (Dt.nm b k).isPrefixOf s = true) : Dt.weekF b s = some k := by
  unfold Dt.weekF
  rw [List.find?_eq_some_iff_append]
  refine ⟨by simpa using h, List.range k, (List.range 7).drop (k + 1), ?_, ?_⟩
  · have : ∀ k : Fin 7, List.range 7 = List.range k.val ++ k.val :: (List.range 7).drop (k.val + 1) := by decide
    exact this ⟨k, hk⟩
  · intro j hj
    have := hb j (List.mem_range.1 hj)
    simpa using this
theorem weekF_none {b : Bool} {s : List UInt8} (hb : ∀ j, j < 7 → (Dt.nm b j).isPrefixOf s = false) : Dt.weekF b s = none := by
  unfold Dt.weekF
  rw [List.find?_eq_none]
  intro j hj
  have := hb j (List.mem_range.1 hj)
  rw [this]
  simp
theorem preB_is (p s : List UInt8) : preB p s = p.isPrefixOf s := by
  unfold preB
  rw [Bool.eq_iff_iff, List.isPrefixOf_iff_prefix, beq_iff_eq]
  constructor
  · intro h
    rw [← h]
    exact List.take_prefix _ _
  · intro h
    exact (List.prefix_iff_eq_take.1 h).symm
theorem wk_len (k : Nat) (hk : k < 7) : 6 ≤ (Dt.wkN k).length ∧ (Dt.wkN k).length ≤ 9 := (Dt.nm_comma ⟨k, hk⟩).2.2.2
set_option maxHeartbeats 4000000 in
theorem week_any (b : Nat) (whole : Bool) (s : List UInt8) (ok : Bool) (w : World) (h : SC w b s ok) (hs : s.length ≤ 1099511627776) :
    Calls Tryd.prog 22 #[.pointer (some ⟨b, 0, none⟩), .bool whole] w fun e w' => e = .returned (.int .i64 (Dt.week whole s ok).1) ∧ SC w' b (Dt.week whole s ok).2.1 (Dt.week whole s ok).2.2 ∧ w.grownBy w' (some b) := by
  have HL : Hid (Dt.week whole s ok = match Dt.weekF whole s with | some i => ((i : Int), s.drop (Dt.nm whole i).length, ok) | none => (0, s, false)) := Lib.hid rfl
  generalize Dt.week whole s ok = R at *
  go_enter Tryd.func22, Tryd.ntmps22
  go_wp2_with fail
  refine (weekdays_any _).mono ?_
  rintro e w1 ⟨rfl, hb1⟩
  have hs1 := h.step hb1
  have hg1 : w.grownBy w1 (some b) := only_below (only_refl _ _) hb1
  obtain ⟨c0, c1, f0, f1⟩ := hs1.cells
  clear hb1 h
  generalize hwk : week7 = WK at *
  have HWK := Lib.hid hwk
  clear hwk
  go_wp2
  go_loopg [10] 7 (fun r i wr => ∃ k : Nat, k ≤ 7 ∧ r + k = 7 ∧ i = .int .i64 (k : Int) ∧ Hid (∀ j, j < k → (Dt.nm whole j).isPrefixOf s = false) ∧ wr = w1)
  case atStart => exact ⟨0, by omega, by omega, rfl, Lib.hid (by omega), rfl⟩
  case round =>
    obtain ⟨k, hk, hr, rfl, HB, rfl⟩ := hrel
    obtain ⟨w1, rfl⟩ : ∃ w1, w1 = wr := ⟨_, rfl⟩
    by_cases hlt : k < 7
    · have hix := week_index k hlt
      rw [HWK.out] at hix
      obtain ⟨l1, l2⟩ := wk_len k hlt
      have HNM : Hid (Dt.nm whole k = if whole = true then Dt.wkN k else (Dt.wkN k).take 3) := Lib.hid rfl
      have k0 : (0 : Int) ≤ (k : Int) := by omega
      have k1 : (k : Int) < 7 := by omega
      have HWF := Lib.hid (fun q => weekF_at (b := whole) (s := s) hlt HB.out q)
      generalize Dt.wkN k = nmk at *
      go_upto_if 15 with fail
      go_cut [6] (fun v wc => v = .string (bs (Dt.nm whole k)) ∧ w1 = wc)
      case first =>
        cases whole with
        | true =>
          go_wp2
          go_meet
          case rel => exact ⟨by rw [HNM.out]; rfl, rfl⟩
        | false =>
          go_wp2
          go_meet
          case rel => exact ⟨by rw [HNM.out]; simp, rfl⟩
      case rest =>
        obtain ⟨rfl, rfl⟩ := hcut
        clear hix
        have hnl : (Dt.nm whole k).length ≤ 9 := by rw [HNM.out]; split <;> (try simp) <;> omega
        have hC := cutPrefix_any s (Dt.nm whole k)
        have hCU : Hid (cutP (Dt.nm whole k) s = if preB (Dt.nm whole k) s = true then s.drop (Dt.nm whole k).length else s) := Lib.hid rfl
        rw [preB_is] at hCU
        simp only [preB_is] at hC
        clear HNM
        generalize hnm : Dt.nm whole k = nk at *
        have HNK := Lib.hid hnm
        clear hnm
        go_wp2_with fail
        refine (hC _ (by omega) (by omega)).mono ?_
        rintro e w2 ⟨rfl, rfl⟩
        clear hC
        cases hp : nk.isPrefixOf s with
        | true =>
          have hR : R = ((k : Int), s.drop nk.length, ok) := by rw [HL.out, HWF.out hp]; dsimp only; rw [HNK.out]
          have HR := Lib.hid hR
          rw [hp] at hCU
          have hcp : cutP nk s = s.drop nk.length := by rw [hCU.out, if_pos rfl]
          rw [hcp]
          clear hR hp HWF hCU hcp HB
          go_wp2
          go_ret
          exact ⟨by rw [HR.out]; rfl, by rw [HR.out]; exact hs1.set0 _, only_set hg1 _ _⟩
        | false =>
          have HBN : Hid (∀ j, j < k + 1 → (Dt.nm whole j).isPrefixOf s = false) := Lib.hid fun j hj => by
            rcases Nat.lt_or_ge j k with h1 | h1
            · exact HB.out j h1
            · obtain rfl : j = k := by omega
              rw [HNK.out]; exact hp
          clear hp HWF hCU HB
          go_wp2
          go_roundg (7 - (k + 1))
          case measure => omega
          case rel => exact ⟨k + 1, by omega, by omega, by go_num, HBN, rfl⟩
    · obtain rfl : k = 7 := by omega
      have HR : Hid (R = (0, s, false)) := Lib.hid (by rw [HL.out, weekF_none HB.out])
      clear HB
      go_wp2
      go_ret
      exact ⟨by rw [HR.out]; rfl, by rw [HR.out]; exact hs1.set1 false, only_set hg1 _ _⟩
end Go.Proofs.YtfldfkipkfpdjaaDoor
