/- Walks of the third form and of Parse. Conditions: the text's length at most 2^40. -/
import Derived.Test.YtfldfkipkfpdjaaDoorDtS3
set_option linter.unusedVariables false
set_option linter.unusedSimpArgs false
namespace Go.Proofs.YtfldfkipkfpdjaaDoor
open Go.RowKit

set_option maxRecDepth 100000
set_option maxHeartbeats 4000000 in
theorem ansi_any (b : Nat) (s : List UInt8) (w : World) (h : SC w b s true) (hs : s.length ≤ 1099511627776) :
    Calls Tryd.prog 28 #[.pointer (some ⟨b, 0, none⟩)] w fun e w' => e = .returned (.tuple #[.int .i64 (Dt.p2 s).1, .int .i64 (Dt.p2 s).2]) ∧ w.grownBy w' (some b) := by
  generalize hok : true = ok at h
  have HOK := Lib.hid hok
  clear hok
  go_enter Tryd.func28, Tryd.ntmps28
  have n1 := week_any b false s ok w h (by omega)
  have d1 := Dt.week_bd false s ok
  have l1 := week_le false s ok
  generalize hE1 : Dt.week false s ok = r1 at *
  have E1 := Lib.hid hE1
  clear hE1
  obtain ⟨v1, s1, k1⟩ := r1
  dsimp only at *
  go_wp2_with fail
  refine n1.mono ?_
  rintro e w1 ⟨rfl, h1, g1⟩
  clear n1
  have n2 := lit_any b [32] s1 k1 w1 h1 (by decide) (by decide) (by omega)
  have l2 := lit_le [32] s1 k1
  generalize hE2 : Dt.lit [32] s1 k1 = r2 at *
  have E2 := Lib.hid hE2
  clear hE2
  obtain ⟨s2, k2⟩ := r2
  dsimp only at *
  go_wp2_with fail
  refine n2.mono ?_
  rintro e w2 ⟨rfl, h2, g2⟩
  clear n2
  have n3 := mon_any b s2 k2 w2 h2 (by omega)
  have d3 := Dt.mon_bd s2 k2
  have l3 := mon_le s2 k2
  generalize hE3 : Dt.mon s2 k2 = r3 at *
  have E3 := Lib.hid hE3
  clear hE3
  obtain ⟨v3, s3, k3⟩ := r3
  dsimp only at *
  go_wp2_with fail
  refine n3.mono ?_
  rintro e w3 ⟨rfl, h3, g3⟩
  clear n3
  have n4 := lit_any b [32] s3 k3 w3 h3 (by decide) (by decide) (by omega)
  have l4 := lit_le [32] s3 k3
  generalize hE4 : Dt.lit [32] s3 k3 = r4 at *
  have E4 := Lib.hid hE4
  clear hE4
  obtain ⟨s4, k4⟩ := r4
  dsimp only at *
  go_wp2_with fail
  refine n4.mono ?_
  rintro e w4 ⟨rfl, h4, g4⟩
  clear n4
  have HD : Hid (Dt.day2 s4 k4 = if [32].isPrefixOf s4 = true then Dt.num 1 (Dt.lit [32] s4 k4).1 (Dt.lit [32] s4 k4).2 else ((Dt.num 2 s4 k4).1, (Dt.num 2 s4 k4).2.1, (Dt.num 2 s4 k4).2.2 && !decide ((Dt.num 2 s4 k4).1 < 10))) := Lib.hid rfl
  generalize hE5 : Dt.day2 s4 k4 = r5 at *
  have E5 := Lib.hid hE5
  clear hE5
  obtain ⟨v5, s5, k5⟩ := r5
  have hPX := shasPrefix_any s4 [32]
  simp only [preB_is] at hPX
  obtain ⟨c0, c1, f0, f1⟩ := h4.cells
  have G4 := Lib.hid (only_trans g1 (only_trans g2 (only_trans g3 g4)))
  go_upto_if 20 with ((go_at_call 43; refine (hPX _ (by omega) (by decide)).mono ?_; rintro e w9 ⟨rfl, rfl⟩))
  go_cut [6] (fun v wc => v = .int .i64 v5 ∧ SC wc b s5 k5 ∧ w4.grownBy wc (some b) ∧ Hid (s5.length ≤ 1099511627776 ∧ 0 ≤ v5 ∧ v5 < 100))
  case first =>
    cases hp : [32].isPrefixOf s4 with
    | true =>
      rw [hp] at HD
      have hd := HD.out
      rw [if_pos rfl] at hd
      have HDD := Lib.hid hd
      clear hd HD hp c0 c1 f0 f1
      have n6 := lit_any b [32] s4 k4 w4 h4 (by decide) (by decide) (by omega)
      have l6 := lit_le [32] s4 k4
      generalize hE6 : Dt.lit [32] s4 k4 = r6 at *
      have E6 := Lib.hid hE6
      clear hE6
      obtain ⟨s6, k6⟩ := r6
      dsimp only at *
      go_wp2_with fail
      refine n6.mono ?_
      rintro e w6 ⟨rfl, h6, g6⟩
      clear n6
      have n7 := num_any b 1 s6 k6 w6 h6 (by omega) (by omega) (by omega)
      have d7 := Dt.num_bd 1 s6 k6
      have l7 := num_le 1 s6 k6
      rw [← HDD.out] at n7 d7 l7
      dsimp only at *
      rw [show (10 : Int) ^ 1 = 10 by decide] at d7
      go_wp2_with fail
      refine n7.mono ?_
      rintro e w7 ⟨rfl, h7, g7⟩
      clear n7
      go_wp2
      go_meet
      case rel => exact ⟨rfl, h7, only_trans g6 g7, Lib.hid ⟨by omega, by omega, by omega⟩⟩
    | false =>
      rw [hp] at HD
      have hd := HD.out
      rw [if_neg (by decide)] at hd
      have HDD := Lib.hid hd
      clear hd HD hp c0 c1 f0 f1
      have n7 := num_any b 2 s4 k4 w4 h4 (by omega) (by omega) (by omega)
      have d7 := Dt.num_bd 2 s4 k4
      have l7 := num_le 2 s4 k4
      generalize hE7 : Dt.num 2 s4 k4 = r7 at *
      clear hE7
      obtain ⟨v7, s7, k7⟩ := r7
      have hq := HDD.out
      dsimp only at *
      rw [show (10 : Int) ^ 2 = 100 by decide] at d7
      simp only [Prod.mk.injEq] at hq
      obtain ⟨rfl, rfl, hk5⟩ := hq
      have HK5 := Lib.hid hk5
      clear hk5 HDD
      go_wp2_with fail
      refine n7.mono ?_
      rintro e w7 ⟨rfl, h7, g7⟩
      obtain ⟨c0, c1, f0, f1⟩ := h7.cells
      clear n7
      by_cases h10 : v5 < 10
      · have HK : Hid (k5 = false) := Lib.hid (by rw [HK5.out]; simp [h10])
        go_wp2
        go_meet
        case rel => exact ⟨rfl, by rw [HK.out]; exact h7.set1 false, only_set g7 _ _, Lib.hid ⟨by omega, by omega, by omega⟩⟩
      · have HK : Hid (k5 = k7) := Lib.hid (by rw [HK5.out]; simp [h10])
        go_wp2
        go_meet
        case rel => exact ⟨rfl, by rw [HK.out]; exact h7, g7, Lib.hid ⟨by omega, by omega, by omega⟩⟩
  case rest =>
    obtain ⟨rfl, h5, g5, hb5⟩ := hcut
    obtain ⟨l5, d50, d51⟩ := hb5.out
    clear hb5 HD hPX c0 c1 f0 f1
    generalize wc = w5 at *
    have n6 := lit_any b [32] s5 k5 w5 h5 (by decide) (by decide) (by omega)
    have l6 := lit_le [32] s5 k5
    generalize hE6 : Dt.lit [32] s5 k5 = r6 at *
    have E6 := Lib.hid hE6
    clear hE6
    obtain ⟨s6, k6⟩ := r6
    dsimp only at *
    go_wp2_with fail
    refine n6.mono ?_
    rintro e w6 ⟨rfl, h6, g6⟩
    clear n6
    have n7 := clk_any b s6 k6 w6 h6 (by omega)
    have d7 := Dt.clk_bd s6 k6
    have l7 := clk_le s6 k6
    generalize hE7 : Dt.clk s6 k6 = r7 at *
    have E7 := Lib.hid hE7
    clear hE7
    obtain ⟨v7, s7, k7⟩ := r7
    dsimp only at *
    go_wp2_with fail
    refine n7.mono ?_
    rintro e w7 ⟨rfl, h7, g7⟩
    clear n7
    have n8 := lit_any b [32] s7 k7 w7 h7 (by decide) (by decide) (by omega)
    have l8 := lit_le [32] s7 k7
    generalize hE8 : Dt.lit [32] s7 k7 = r8 at *
    have E8 := Lib.hid hE8
    clear hE8
    obtain ⟨s8, k8⟩ := r8
    dsimp only at *
    go_wp2_with fail
    refine n8.mono ?_
    rintro e w8 ⟨rfl, h8, g8⟩
    clear n8
    have n9 := num_any b 4 s8 k8 w8 h8 (by omega) (by omega) (by omega)
    have d9 := Dt.num_bd 4 s8 k8
    have l9 := num_le 4 s8 k8
    generalize hE9 : Dt.num 4 s8 k8 = r9 at *
    have E9 := Lib.hid hE9
    clear hE9
    obtain ⟨v9, s9, k9⟩ := r9
    dsimp only at *
    rw [show (10 : Int) ^ 4 = 10000 by decide] at d9
    go_wp2_with fail
    refine n9.mono ?_
    rintro e w9 ⟨rfl, h9, g9⟩
    clear n9
    have HP : Hid (Dt.p2 s = Dt.doneV v1 v9 v3 v5 v7 s9 k9) := Lib.hid (by
      unfold Dt.p2
      rw [HOK.out]
      dsimp only
      rw [E1.out]
      dsimp only
      rw [E2.out]
      dsimp only
      rw [E3.out]
      dsimp only
      rw [E4.out]
      dsimp only
      rw [E5.out]
      dsimp only
      rw [E6.out]
      dsimp only
      rw [E7.out]
      dsimp only
      rw [E8.out]
      dsimp only
      rw [E9.out])
    have hD := done_any b v1 v9 v3 v5 v7 s9 k9 w9 h9 (by omega) (by omega) (by omega)
    rw [← HP.out] at hD
    go_wp2_with fail
    refine hD.mono ?_
    rintro e wA ⟨rfl, rfl⟩
    go_wp2
    go_ret2
    exact ⟨rfl, only_trans G4.out (only_trans g5 (only_trans g6 (only_trans g7 (only_trans g8 g9))))⟩
end Go.Proofs.YtfldfkipkfpdjaaDoor
