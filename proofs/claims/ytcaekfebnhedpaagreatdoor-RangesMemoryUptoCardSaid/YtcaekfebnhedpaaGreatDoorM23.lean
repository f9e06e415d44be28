/- Joined texts: Walks of the third form and of Parse; Parse of a date: it answers 'dparse' of the text. The conditions stand in each line. -/
import Derived.Test.YtcaekfebnhedpaaGreatDoorM22
set_option linter.unusedVariables false
set_option linter.unusedSimpArgs false
namespace Go.Proofs.YtcaekfebnhedpaaGreatDoor
open Go.RowKit

set_option maxRecDepth 100000
set_option maxHeartbeats 4000000 in
theorem ansi_any (b : Nat) (s : List UInt8) (w : World) (h : SC w b s true) (hs : s.length ≤ 4398046511104) :
    Calls Tryz.prog 84 #[.pointer (some ⟨b, 0, none⟩)] w fun e w' => e = .returned (.tuple #[.int .i64 (Dt.p2 s).1, .int .i64 (Dt.p2 s).2]) ∧ w.grownBy w' (some b) := by
  generalize hok : true = ok at h
  have HOK := Lib.hid hok
  clear hok
  go_enter Tryz.func84, Tryz.ntmps84
  have n1 := week_any b false s ok w h (by omega)
  have d1 := Dt.week_bd false s ok
  have l1 := week_le false s ok
  generalize hE1 : Dt.week false s ok = r1 at *
  have E1 := Lib.hid hE1
  clear hE1
  obtain ⟨v1, s1, k1⟩ := r1
  dsimp only at *
  go_wp2_with fail
  refine n1.mono ?_
  rintro e w1 ⟨rfl, h1, g1⟩
  clear n1
  have n2 := lit_any b [32] s1 k1 w1 h1 (by decide) (by decide) (by omega)
  have l2 := lit_le [32] s1 k1
  generalize hE2 : Dt.lit [32] s1 k1 = r2 at *
  have E2 := Lib.hid hE2
  clear hE2
  obtain ⟨s2, k2⟩ := r2
  dsimp only at *
  go_wp2_with fail
  refine n2.mono ?_
  rintro e w2 ⟨rfl, h2, g2⟩
  clear n2
  have n3 := mon_any b s2 k2 w2 h2 (by omega)
  have d3 := Dt.mon_bd s2 k2
  have l3 := mon_le s2 k2
  generalize hE3 : Dt.mon s2 k2 = r3 at *
  have E3 := Lib.hid hE3
  clear hE3
  obtain ⟨v3, s3, k3⟩ := r3
  dsimp only at *
  go_wp2_with fail
  refine n3.mono ?_
  rintro e w3 ⟨rfl, h3, g3⟩
  clear n3
  have n4 := lit_any b [32] s3 k3 w3 h3 (by decide) (by decide) (by omega)
  have l4 := lit_le [32] s3 k3
  generalize hE4 : Dt.lit [32] s3 k3 = r4 at *
  have E4 := Lib.hid hE4
  clear hE4
  obtain ⟨s4, k4⟩ := r4
  dsimp only at *
  go_wp2_with fail
  refine n4.mono ?_
  rintro e w4 ⟨rfl, h4, g4⟩
  clear n4
  have HD : Hid (Dt.day2 s4 k4 = if [32].isPrefixOf s4 = true then Dt.num 1 (Dt.lit [32] s4 k4).1 (Dt.lit [32] s4 k4).2 else ((Dt.num 2 s4 k4).1, (Dt.num 2 s4 k4).2.1, (Dt.num 2 s4 k4).2.2 && !decide ((Dt.num 2 s4 k4).1 < 10))) := Lib.hid rfl
  generalize hE5 : Dt.day2 s4 k4 = r5 at *
  have E5 := Lib.hid hE5
  clear hE5
  obtain ⟨v5, s5, k5⟩ := r5
  have hPX := shasPrefix_any s4 [32]
  simp only [preB_is] at hPX
  obtain ⟨c0, c1, f0, f1⟩ := h4.cells
  have G4 := Lib.hid (only_trans g1 (only_trans g2 (only_trans g3 g4)))
  go_upto_if 20 with ((go_at_call 114; refine (hPX _ (by omega) (by decide)).mono ?_; rintro e w9 ⟨rfl, rfl⟩))
  go_cut [6] (fun v wc => v = .int .i64 v5 ∧ SC wc b s5 k5 ∧ w4.grownBy wc (some b) ∧ Hid (s5.length ≤ 4398046511104 ∧ 0 ≤ v5 ∧ v5 < 100))
  case first =>
    cases hp : [32].isPrefixOf s4 with
    | true =>
      rw [hp] at HD
      have hd := HD.out
      rw [if_pos rfl] at hd
      have HDD := Lib.hid hd
      clear hd HD hp c0 c1 f0 f1
      have n6 := lit_any b [32] s4 k4 w4 h4 (by decide) (by decide) (by omega)
      have l6 := lit_le [32] s4 k4
      generalize hE6 : Dt.lit [32] s4 k4 = r6 at *
      have E6 := Lib.hid hE6
      clear hE6
      obtain ⟨s6, k6⟩ := r6
      dsimp only at *
      go_wp2_with fail
      refine n6.mono ?_
      rintro e w6 ⟨rfl, h6, g6⟩
      clear n6
      have n7 := num_any b 1 s6 k6 w6 h6 (by omega) (by omega) (by omega)
      have d7 := Dt.num_bd 1 s6 k6
      have l7 := num_le 1 s6 k6
      rw [← HDD.out] at n7 d7 l7
      dsimp only at *
      rw [show (10 : Int) ^ 1 = 10 by decide] at d7
      go_wp2_with fail
      refine n7.mono ?_
      rintro e w7 ⟨rfl, h7, g7⟩
      clear n7
      go_wp2
      go_meet
      case rel => exact ⟨rfl, h7, only_trans g6 g7, Lib.hid ⟨by omega, by omega, by omega⟩⟩
    | false =>
      rw [hp] at HD
      have hd := HD.out
      rw [if_neg (by decide)] at hd
      have HDD := Lib.hid hd
      clear hd HD hp c0 c1 f0 f1
      have n7 := num_any b 2 s4 k4 w4 h4 (by omega) (by omega) (by omega)
      have d7 := Dt.num_bd 2 s4 k4
      have l7 := num_le 2 s4 k4
      generalize hE7 : Dt.num 2 s4 k4 = r7 at *
      clear hE7
      obtain ⟨v7, s7, k7⟩ := r7
      have hq := HDD.out
      dsimp only at *
      rw [show (10 : Int) ^ 2 = 100 by decide] at d7
      simp only [Prod.mk.injEq] at hq
      obtain ⟨rfl, rfl, hk5⟩ := hq
      have HK5 := Lib.hid hk5
      clear hk5 HDD
      go_wp2_with fail
      refine n7.mono ?_
      rintro e w7 ⟨rfl, h7, g7⟩
      obtain ⟨c0, c1, f0, f1⟩ := h7.cells
      clear n7
      by_cases h10 : v5 < 10
      · have HK : Hid (k5 = false) := Lib.hid (by rw [HK5.out]; simp [h10])
        go_wp2
        go_meet
        case rel => exact ⟨rfl, by rw [HK.out]; exact h7.set1 false, only_set g7 _ _, Lib.hid ⟨by omega, by omega, by omega⟩⟩
      · have HK : Hid (k5 = k7) := Lib.hid (by rw [HK5.out]; simp [h10])
        go_wp2
        go_meet
        case rel => exact ⟨rfl, by rw [HK.out]; exact h7, g7, Lib.hid ⟨by omega, by omega, by omega⟩⟩
  case rest =>
    obtain ⟨rfl, h5, g5, hb5⟩ := hcut
    obtain ⟨l5, d50, d51⟩ := hb5.out
    clear hb5 HD hPX c0 c1 f0 f1
    generalize wc = w5 at *
    have n6 := lit_any b [32] s5 k5 w5 h5 (by decide) (by decide) (by omega)
    have l6 := lit_le [32] s5 k5
    generalize hE6 : Dt.lit [32] s5 k5 = r6 at *
    have E6 := Lib.hid hE6
    clear hE6
    obtain ⟨s6, k6⟩ := r6
    dsimp only at *
    go_wp2_with fail
    refine n6.mono ?_
    rintro e w6 ⟨rfl, h6, g6⟩
    clear n6
    have n7 := clk_any b s6 k6 w6 h6 (by omega)
    have d7 := Dt.clk_bd s6 k6
    have l7 := clk_le s6 k6
    generalize hE7 : Dt.clk s6 k6 = r7 at *
    have E7 := Lib.hid hE7
    clear hE7
    obtain ⟨v7, s7, k7⟩ := r7
    dsimp only at *
    go_wp2_with fail
    refine n7.mono ?_
    rintro e w7 ⟨rfl, h7, g7⟩
    clear n7
    have n8 := lit_any b [32] s7 k7 w7 h7 (by decide) (by decide) (by omega)
    have l8 := lit_le [32] s7 k7
    generalize hE8 : Dt.lit [32] s7 k7 = r8 at *
    have E8 := Lib.hid hE8
    clear hE8
    obtain ⟨s8, k8⟩ := r8
    dsimp only at *
    go_wp2_with fail
    refine n8.mono ?_
    rintro e w8 ⟨rfl, h8, g8⟩
    clear n8
    have n9 := num_any b 4 s8 k8 w8 h8 (by omega) (by omega) (by omega)
    have d9 := Dt.num_bd 4 s8 k8
    have l9 := num_le 4 s8 k8
    generalize hE9 : Dt.num 4 s8 k8 = r9 at *
    have E9 := Lib.hid hE9
    clear hE9
    obtain ⟨v9, s9, k9⟩ := r9
    dsimp only at *
    rw [show (10 : Int) ^ 4 = 10000 by decide] at d9
    go_wp2_with fail
    refine n9.mono ?_
    rintro e w9 ⟨rfl, h9, g9⟩
    clear n9
    have HP : Hid (Dt.p2 s = Dt.doneV v1 v9 v3 v5 v7 s9 k9) := Lib.hid (by
      unfold Dt.p2
      rw [HOK.out]
      dsimp only
      rw [E1.out]
      dsimp only
      rw [E2.out]
      dsimp only
      rw [E3.out]
      dsimp only
      rw [E4.out]
      dsimp only
      rw [E5.out]
      dsimp only
      rw [E6.out]
      dsimp only
      rw [E7.out]
      dsimp only
      rw [E8.out]
      dsimp only
      rw [E9.out])
    have hD := done_any b v1 v9 v3 v5 v7 s9 k9 w9 h9 (by omega) (by omega) (by omega)
    rw [← HP.out] at hD
    go_wp2_with fail
    refine hD.mono ?_
    rintro e wA ⟨rfl, rfl⟩
    go_wp2
    go_ret2
    exact ⟨rfl, only_trans G4.out (only_trans g5 (only_trans g6 (only_trans g7 (only_trans g8 g9))))⟩
end Go.Proofs.YtcaekfebnhedpaaGreatDoor
set_option linter.unusedVariables false
set_option linter.unusedSimpArgs false
namespace Go.Proofs.YtcaekfebnhedpaaGreatDoor
open Go.RowKit

set_option maxRecDepth 100000
theorem comma_is (s : List UInt8) : Lib.indexByte s 44 = Dt.comma s := by
  unfold Dt.comma
  induction s with
  | nil => rfl
  | cons x r ih =>
    unfold Lib.indexByte
    rw [List.findIdx?_cons]
    cases hx : x == 44 with
    | true => simp
    | false =>
      rw [ih]
      cases hf : r.findIdx? (· == 44) with
      | none => simp
      | some k =>
        simp
theorem comma_bd (s : List UInt8) : -1 ≤ Dt.comma s ∧ Dt.comma s ≤ s.length := by
  unfold Dt.comma
  split
  · rename_i k hk
    have := (List.findIdx?_eq_some_iff_getElem.1 hk).1
    omega
  · omega
theorem scan_below {w w' : World} {o : Obj} (h : (w.alloc o).grownBy w' (some w.heap.size)) : Below w.heap.size w w' :=
  ((Below.refl _ _).alloc (Nat.le_refl _) o).grown h (by simp) (fun k e => by cases e; exact Nat.le_refl _)
set_option maxHeartbeats 8000000 in
theorem parse_any (s : List UInt8) (w : World) (hs : s.length ≤ 4398046511104) :
    Calls Tryz.prog 56 #[.string (bs s)] w fun e w' => e = .returned (.tuple #[.int .i64 (Dt.dparse s).1, .int .i64 (Dt.dparse s).2]) ∧ Below w.heap.size w w' := by
  have h0 : SC (w.alloc (.cells #[.string (bs s), .bool true] 102)) w.heap.size s true := heap_alloc_new w _
  have hI := fun W => Tryz.strings_IndexByte (bs s) 44 W
  have hc := comma_bd s
  have HDD : Hid (Dt.dparse s = if Dt.comma s = 3 then Dt.p0 s else if 3 < Dt.comma s then Dt.p1 s else Dt.p2 s) := Lib.hid rfl
  rw [bs_data, show (44 : Int).toNat.toUInt8 = 44 from rfl, comma_is] at hI
  generalize Dt.comma s = cm at *
  generalize Dt.dparse s = R at *
  have HI := Lib.hid (fun W => (hI W).mono fun e w' h => (⟨h.1, h.2.symm⟩ : e = .returned (.int .i64 cm) ∧ W = w'))
  clear hI
  go_enter Tryz.func56, Tryz.ntmps56
  go_upto_region 2 with fail
  generalize hW0 : w.alloc (.cells #[.string (bs s), .bool true] 102) = w0 at *
  have HSB : Hid (∀ w', w0.grownBy w' (some w.heap.size) → Below w.heap.size w w') := Lib.hid fun w' hg => by rw [← hW0] at hg; exact scan_below hg
  clear hW0
  go_wp2_with fail
  refine (HI.out _).mono ?_
  rintro e wI ⟨rfl, rfl⟩
  clear HI
  have hcs : cm = 3 ∨ (cm ≠ 3 ∧ 3 < cm) ∨ (cm ≠ 3 ∧ ¬ 3 < cm) := by omega
  rcases hcs with h3 | ⟨h3, h4⟩ | ⟨h3, h4⟩
  · have HD : Hid (R = Dt.p0 s) := Lib.hid (by rw [HDD.out, if_pos h3])
    have hcb : (cm == 3) = true := by simp [h3]
    clear HDD h3
    have n1 := week_any w.heap.size false s true w0 h0 (by omega)
    have d1 := Dt.week_bd false s true
    have l1 := week_le false s true
    generalize hE1 : Dt.week false s true = r1 at *
    have E1 := Lib.hid hE1
    clear hE1
    obtain ⟨v1, s1, k1⟩ := r1
    dsimp only at *
    go_wp2_with fail
    refine n1.mono ?_
    rintro e w1 ⟨rfl, h1, g1⟩
    clear n1 h0
    have n2 := lit_any w.heap.size [44, 32] s1 k1 w1 h1 (by decide) (by decide) (by omega)
    have l2 := lit_le [44, 32] s1 k1
    generalize hE2 : Dt.lit [44, 32] s1 k1 = r2 at *
    have E2 := Lib.hid hE2
    clear hE2
    obtain ⟨s2, k2⟩ := r2
    dsimp only at *
    go_wp2_with fail
    refine n2.mono ?_
    rintro e w2 ⟨rfl, h2, g2⟩
    clear n2 h1
    have n3 := num_any w.heap.size 2 s2 k2 w2 h2 (by omega) (by omega) (by omega)
    have d3 := Dt.num_bd 2 s2 k2
    have l3 := num_le 2 s2 k2
    generalize hE3 : Dt.num 2 s2 k2 = r3 at *
    have E3 := Lib.hid hE3
    clear hE3
    obtain ⟨v3, s3, k3⟩ := r3
    dsimp only at *
    rw [show (10 : Int) ^ 2 = 100 by decide] at d3
    go_wp2_with fail
    refine n3.mono ?_
    rintro e w3 ⟨rfl, h3, g3⟩
    clear n3 h2
    have n4 := lit_any w.heap.size [32] s3 k3 w3 h3 (by decide) (by decide) (by omega)
    have l4 := lit_le [32] s3 k3
    generalize hE4 : Dt.lit [32] s3 k3 = r4 at *
    have E4 := Lib.hid hE4
    clear hE4
    obtain ⟨s4, k4⟩ := r4
    dsimp only at *
    go_wp2_with fail
    refine n4.mono ?_
    rintro e w4 ⟨rfl, h4, g4⟩
    clear n4 h3
    have n5 := mon_any w.heap.size s4 k4 w4 h4 (by omega)
    have d5 := Dt.mon_bd s4 k4
    have l5 := mon_le s4 k4
    generalize hE5 : Dt.mon s4 k4 = r5 at *
    have E5 := Lib.hid hE5
    clear hE5
    obtain ⟨v5, s5, k5⟩ := r5
    dsimp only at *
    go_wp2_with fail
    refine n5.mono ?_
    rintro e w5 ⟨rfl, h5, g5⟩
    clear n5 h4
    have n6 := lit_any w.heap.size [32] s5 k5 w5 h5 (by decide) (by decide) (by omega)
    have l6 := lit_le [32] s5 k5
    generalize hE6 : Dt.lit [32] s5 k5 = r6 at *
    have E6 := Lib.hid hE6
    clear hE6
    obtain ⟨s6, k6⟩ := r6
    dsimp only at *
    go_wp2_with fail
    refine n6.mono ?_
    rintro e w6 ⟨rfl, h6, g6⟩
    clear n6 h5
    have n7 := num_any w.heap.size 4 s6 k6 w6 h6 (by omega) (by omega) (by omega)
    have d7 := Dt.num_bd 4 s6 k6
    have l7 := num_le 4 s6 k6
    generalize hE7 : Dt.num 4 s6 k6 = r7 at *
    have E7 := Lib.hid hE7
    clear hE7
    obtain ⟨v7, s7, k7⟩ := r7
    dsimp only at *
    rw [show (10 : Int) ^ 4 = 10000 by decide] at d7
    go_wp2_with fail
    refine n7.mono ?_
    rintro e w7 ⟨rfl, h7, g7⟩
    clear n7 h6
    have n8 := lit_any w.heap.size [32] s7 k7 w7 h7 (by decide) (by decide) (by omega)
    have l8 := lit_le [32] s7 k7
    generalize hE8 : Dt.lit [32] s7 k7 = r8 at *
    have E8 := Lib.hid hE8
    clear hE8
    obtain ⟨s8, k8⟩ := r8
    dsimp only at *
    go_wp2_with fail
    refine n8.mono ?_
    rintro e w8 ⟨rfl, h8, g8⟩
    clear n8 h7
    have n9 := clk_any w.heap.size s8 k8 w8 h8 (by omega)
    have d9 := Dt.clk_bd s8 k8
    have l9 := clk_le s8 k8
    generalize hE9 : Dt.clk s8 k8 = r9 at *
    have E9 := Lib.hid hE9
    clear hE9
    obtain ⟨v9, s9, k9⟩ := r9
    dsimp only at *
    go_wp2_with fail
    refine n9.mono ?_
    rintro e w9 ⟨rfl, h9, g9⟩
    clear n9 h8
    have n10 := lit_any w.heap.size [32, 71, 77, 84] s9 k9 w9 h9 (by decide) (by decide) (by omega)
    have l10 := lit_le [32, 71, 77, 84] s9 k9
    generalize hE10 : Dt.lit [32, 71, 77, 84] s9 k9 = r10 at *
    have E10 := Lib.hid hE10
    clear hE10
    obtain ⟨s10, k10⟩ := r10
    dsimp only at *
    go_wp2_with fail
    refine n10.mono ?_
    rintro e w10 ⟨rfl, h10, g10⟩
    clear n10 h9
    have HP : Hid (Dt.p0 s = Dt.doneV v1 v7 v5 v3 v9 s10 k10) := Lib.hid (by
      unfold Dt.p0 Dt.gmt
      dsimp only
      rw [E1.out]
      dsimp only
      rw [E2.out]
      dsimp only
      rw [E3.out]
      dsimp only
      rw [E4.out]
      dsimp only
      rw [E5.out]
      dsimp only
      rw [E6.out]
      dsimp only
      rw [E7.out]
      dsimp only
      rw [E8.out]
      dsimp only
      rw [E9.out]
      dsimp only
      rw [E10.out])
    have hD := done_any w.heap.size v1 v7 v5 v3 v9 s10 k10 w10 h10 (by omega) (by omega) (by omega)
    rw [← HP.out] at hD
    have HG := Lib.hid (only_trans g1 (only_trans g2 (only_trans g3 (only_trans g4 (only_trans g5 (only_trans g6 (only_trans g7 (only_trans g8 (only_trans g9 (g10))))))))))
    clear g1 g2 g3 g4 g5 g6 g7 g8 g9 g10
    go_wp2_with fail
    refine hD.mono ?_
    rintro e wA ⟨rfl, rfl⟩
    go_wp2
    go_ret2
    exact ⟨by rw [HD.out]; rfl, HSB.out _ HG.out⟩
  · have HD : Hid (R = Dt.p1 s) := Lib.hid (by rw [HDD.out, if_neg h3, if_pos h4])
    have hcb : (cm == 3) = false := by simp [h3]
    clear HDD
    have n1 := week_any w.heap.size true s true w0 h0 (by omega)
    have d1 := Dt.week_bd true s true
    have l1 := week_le true s true
    generalize hE1 : Dt.week true s true = r1 at *
    have E1 := Lib.hid hE1
    clear hE1
    obtain ⟨v1, s1, k1⟩ := r1
    dsimp only at *
    go_wp2_with fail
    refine n1.mono ?_
    rintro e w1 ⟨rfl, h1, g1⟩
    clear n1 h0
    have n2 := lit_any w.heap.size [44, 32] s1 k1 w1 h1 (by decide) (by decide) (by omega)
    have l2 := lit_le [44, 32] s1 k1
    generalize hE2 : Dt.lit [44, 32] s1 k1 = r2 at *
    have E2 := Lib.hid hE2
    clear hE2
    obtain ⟨s2, k2⟩ := r2
    dsimp only at *
    go_wp2_with fail
    refine n2.mono ?_
    rintro e w2 ⟨rfl, h2, g2⟩
    clear n2 h1
    have n3 := num_any w.heap.size 2 s2 k2 w2 h2 (by omega) (by omega) (by omega)
    have d3 := Dt.num_bd 2 s2 k2
    have l3 := num_le 2 s2 k2
    generalize hE3 : Dt.num 2 s2 k2 = r3 at *
    have E3 := Lib.hid hE3
    clear hE3
    obtain ⟨v3, s3, k3⟩ := r3
    dsimp only at *
    rw [show (10 : Int) ^ 2 = 100 by decide] at d3
    go_wp2_with fail
    refine n3.mono ?_
    rintro e w3 ⟨rfl, h3, g3⟩
    clear n3 h2
    have n4 := lit_any w.heap.size [45] s3 k3 w3 h3 (by decide) (by decide) (by omega)
    have l4 := lit_le [45] s3 k3
    generalize hE4 : Dt.lit [45] s3 k3 = r4 at *
    have E4 := Lib.hid hE4
    clear hE4
    obtain ⟨s4, k4⟩ := r4
    dsimp only at *
    go_wp2_with fail
    refine n4.mono ?_
    rintro e w4 ⟨rfl, h4, g4⟩
    clear n4 h3
    have n5 := mon_any w.heap.size s4 k4 w4 h4 (by omega)
    have d5 := Dt.mon_bd s4 k4
    have l5 := mon_le s4 k4
    generalize hE5 : Dt.mon s4 k4 = r5 at *
    have E5 := Lib.hid hE5
    clear hE5
    obtain ⟨v5, s5, k5⟩ := r5
    dsimp only at *
    go_wp2_with fail
    refine n5.mono ?_
    rintro e w5 ⟨rfl, h5, g5⟩
    clear n5 h4
    have n6 := lit_any w.heap.size [45] s5 k5 w5 h5 (by decide) (by decide) (by omega)
    have l6 := lit_le [45] s5 k5
    generalize hE6 : Dt.lit [45] s5 k5 = r6 at *
    have E6 := Lib.hid hE6
    clear hE6
    obtain ⟨s6, k6⟩ := r6
    dsimp only at *
    go_wp2_with fail
    refine n6.mono ?_
    rintro e w6 ⟨rfl, h6, g6⟩
    clear n6 h5
    have n7 := num_any w.heap.size 2 s6 k6 w6 h6 (by omega) (by omega) (by omega)
    have d7 := Dt.num_bd 2 s6 k6
    have l7 := num_le 2 s6 k6
    generalize hE7 : Dt.num 2 s6 k6 = r7 at *
    have E7 := Lib.hid hE7
    clear hE7
    obtain ⟨v7, s7, k7⟩ := r7
    dsimp only at *
    rw [show (10 : Int) ^ 2 = 100 by decide] at d7
    go_wp2_with fail
    refine n7.mono ?_
    rintro e w7 ⟨rfl, h7, g7⟩
    clear n7 h6
    have Y : Hid (Dt.y2 v7 = if v7 + 1900 < 1970 then v7 + 2000 else v7 + 1900) := Lib.hid rfl
    generalize hyy : Dt.y2 v7 = yy at *
    have HYY := Lib.hid hyy
    clear hyy
    go_upto_if 72 with fail
    go_cut [14] (fun v wc => v = .int .i64 yy ∧ w7 = wc)
    case first =>
      by_cases hy : v7 + 1900 < 1970
      · have HY : Hid (yy = v7 + 2000) := Lib.hid (by rw [Y.out, if_pos hy])
        go_wp2
        go_meet
        case rel => exact ⟨by rw [HY.out]; go_num, rfl⟩
      · have HY : Hid (yy = v7 + 1900) := Lib.hid (by rw [Y.out, if_neg hy])
        go_wp2
        go_meet
        case rel => exact ⟨by rw [HY.out], rfl⟩
    case rest =>
    obtain ⟨rfl, rfl⟩ := hcut
    clear Y
    have n8 := lit_any w.heap.size [32] s7 k7 w7 h7 (by decide) (by decide) (by omega)
    have l8 := lit_le [32] s7 k7
    generalize hE8 : Dt.lit [32] s7 k7 = r8 at *
    have E8 := Lib.hid hE8
    clear hE8
    obtain ⟨s8, k8⟩ := r8
    dsimp only at *
    go_wp2_with fail
    refine n8.mono ?_
    rintro e w8 ⟨rfl, h8, g8⟩
    clear n8 h7
    have n9 := clk_any w.heap.size s8 k8 w8 h8 (by omega)
    have d9 := Dt.clk_bd s8 k8
    have l9 := clk_le s8 k8
    generalize hE9 : Dt.clk s8 k8 = r9 at *
    have E9 := Lib.hid hE9
    clear hE9
    obtain ⟨v9, s9, k9⟩ := r9
    dsimp only at *
    go_wp2_with fail
    refine n9.mono ?_
    rintro e w9 ⟨rfl, h9, g9⟩
    clear n9 h8
    have n10 := lit_any w.heap.size [32, 71, 77, 84] s9 k9 w9 h9 (by decide) (by decide) (by omega)
    have l10 := lit_le [32, 71, 77, 84] s9 k9
    generalize hE10 : Dt.lit [32, 71, 77, 84] s9 k9 = r10 at *
    have E10 := Lib.hid hE10
    clear hE10
    obtain ⟨s10, k10⟩ := r10
    dsimp only at *
    go_wp2_with fail
    refine n10.mono ?_
    rintro e w10 ⟨rfl, h10, g10⟩
    clear n10 h9
    have HP : Hid (Dt.p1 s = Dt.doneV v1 yy v5 v3 v9 s10 k10) := Lib.hid (by
      unfold Dt.p1 Dt.gmt
      dsimp only
      rw [E1.out]
      dsimp only
      rw [E2.out]
      dsimp only
      rw [E3.out]
      dsimp only
      rw [E4.out]
      dsimp only
      rw [E5.out]
      dsimp only
      rw [E6.out]
      dsimp only
      rw [E7.out]
      dsimp only
      rw [E8.out]
      dsimp only
      rw [E9.out]
      dsimp only
      rw [E10.out]
      rw [HYY.out])
    have hD := done_any w.heap.size v1 yy v5 v3 v9 s10 k10 w10 h10 (by omega) (by omega) (by omega)
    rw [← HP.out] at hD
    have HG := Lib.hid (only_trans g1 (only_trans g2 (only_trans g3 (only_trans g4 (only_trans g5 (only_trans g6 (only_trans g7 (only_trans g8 (only_trans g9 (g10))))))))))
    clear g1 g2 g3 g4 g5 g6 g7 g8 g9 g10
    go_wp2_with fail
    refine hD.mono ?_
    rintro e wA ⟨rfl, rfl⟩
    go_wp2
    go_ret2
    exact ⟨by rw [HD.out]; rfl, HSB.out _ HG.out⟩
  · have HD : Hid (R = Dt.p2 s) := Lib.hid (by rw [HDD.out, if_neg h3, if_neg h4])
    have hcb : (cm == 3) = false := by simp [h3]
    have hA := ansi_any w.heap.size s w0 h0 (by omega)
    rw [← HD.out] at hA
    clear HDD
    go_wp2_with fail
    refine hA.mono ?_
    rintro e wA ⟨rfl, gA⟩
    go_wp2
    go_ret2
    exact ⟨rfl, HSB.out _ gA⟩
end Go.Proofs.YtcaekfebnhedpaaGreatDoor
