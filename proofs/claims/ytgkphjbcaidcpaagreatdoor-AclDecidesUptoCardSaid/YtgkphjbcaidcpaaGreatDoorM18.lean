/- Joined texts: The reference's good; The reference's holds. The conditions stand in each line. -/
import Derived.Test.YtgkphjbcaidcpaaGreatDoorM17
set_option linter.unusedVariables false
set_option linter.unusedSimpArgs false
namespace Go.Proofs.YtgkphjbcaidcpaaGreatDoor
open Go.RowKit

set_option maxRecDepth 100000
namespace Ac
theorem good_none {k v : T} (h : k ≠ srcT ∧ k ≠ hostT ∧ k ≠ portT ∧ k ≠ methT ∧ k ≠ pathT ∧ k ≠ timeT) : good k v = false := by
  obtain ⟨h1, h2, h3, h4, h5, h6⟩ := h
  unfold good; rw [if_neg h1, if_neg h2, if_neg h3, if_neg h4, if_neg h5, if_neg h6]
theorem win_at {s : T} (h : s.length = 11) (h2 : s[5]? = some 45) : win s = both (clk (s.take 5)) (clk (s.drop 6)) := by unfold win; rw [if_pos ⟨h, h2⟩]
theorem win_not {s : T} (h : ¬ (s.length = 11 ∧ s[5]? = some 45)) : win s = none := by unfold win; rw [if_neg h]
theorem both_some (X Y : Option Nat) : (both X Y).isSome = (decide (0 ≤ numI X) && decide (0 ≤ numI Y)) := by
  cases X with
  | none => rw [both_l]; rfl
  | some a =>
    have e1 : decide (0 ≤ numI (some a)) = true := decide_eq_true (by unfold numI; simp only; omega)
    cases Y with
    | none => rw [both_r, e1]; rfl
    | some b => rw [e1, show decide (0 ≤ numI (some b)) = true from decide_eq_true (by unfold numI; simp only; omega)]; rfl
end Ac
set_option maxHeartbeats 4000000 in
theorem rgood_any (k v : List UInt8) (w : World) (hl : v.length ≤ 4194304) :
    Calls Tryz.prog 31 #[.string (bs k), .string (bs v)] w fun e w' => e = .returned (.bool (Ac.good k v)) ∧ Below w.heap.size w w' := by
  by_cases h0 : k = Ac.srcT
  · have q0 : (k == [115, 114, 99]) = true := by rw [h0]; rfl
    rw [h0, Ac.good_src]
    clear h0
    have hC := rnetwork_any v w hl
    unfold TwoOut at hC
    generalize Ac.net v = R at *
    go_enter Tryz.func31, Tryz.ntmps31
    go_wp2_with fail
    refine hC.mono ?_
    rintro e w1 ⟨⟨x, y, rfl, hxy⟩, hb⟩
    clear hC
    go_wp2
    go_ret
    exact ⟨rfl, hb⟩
  have q0 : (k == [115, 114, 99]) = false := by simpa [Ac.srcT] using h0
  by_cases h1 : k = Ac.hostT
  · have q1 : (k == [104, 111, 115, 116]) = true := by rw [h1]; rfl
    rw [h1, Ac.good_host]
    clear h0 h1
    have HG : Hid (∀ k (h : k < v.length), Ac.hostB v[k] = false → v.all Ac.hostB = false) := Lib.hid fun k h hb => all_stop Ac.hostB v k h hb
    have HA : Hid ((v.take v.length).all Ac.hostB = true → v.all Ac.hostB = true) := Lib.hid fun h => all_full Ac.hostB v h
    generalize v.all Ac.hostB = GV at *
    go_enter Tryz.func31, Tryz.ntmps31
    go_wp2
    go_loop [8] (fun t => ∃ k : Nat, k ≤ v.length ∧ t = .int .i64 (k : Int) ∧ Hid ((v.take k).all Ac.hostB = true)) (fun t => v.length - (intOf t).toNat)
    case atStart => exact ⟨0, by omega, rfl, Lib.hid rfl⟩
    case round =>
      obtain ⟨i, hk, rfl, HT⟩ := hrel
      by_cases hlt : i < v.length
      · have hc255 : (v[i].toNat : Int) ≤ 255 := by have := v[i].toNat_lt; omega
        have hcl : (0 ≤ (v[i].toNat : Int) ∧ (v[i].toNat : Int) ≤ 44) ∨ (45 ≤ (v[i].toNat : Int) ∧ (v[i].toNat : Int) ≤ 45) ∨ (46 ≤ (v[i].toNat : Int) ∧ (v[i].toNat : Int) ≤ 46) ∨ (47 ≤ (v[i].toNat : Int) ∧ (v[i].toNat : Int) ≤ 47) ∨ (48 ≤ (v[i].toNat : Int) ∧ (v[i].toNat : Int) ≤ 57) ∨ (58 ≤ (v[i].toNat : Int) ∧ (v[i].toNat : Int) ≤ 64) ∨ (65 ≤ (v[i].toNat : Int) ∧ (v[i].toNat : Int) ≤ 90) ∨ (91 ≤ (v[i].toNat : Int) ∧ (v[i].toNat : Int) ≤ 96) ∨ (97 ≤ (v[i].toNat : Int) ∧ (v[i].toNat : Int) ≤ 122) ∨ (123 ≤ (v[i].toNat : Int) ∧ (v[i].toNat : Int) ≤ 255) := by omega
        rcases hcl with hq | hq | hq | hq | hq | hq | hq | hq | hq | hq
        · have p0 : ¬ ((48 : Int) ≤ (v[i].toNat : Int)) := by omega
          have p2 : ¬ ((65 : Int) ≤ (v[i].toNat : Int)) := by omega
          have p4 : ¬ ((97 : Int) ≤ (v[i].toNat : Int)) := by omega
          have p1 : ((v[i].toNat : Int) ≤ 57) := by omega
          have p3 : ((v[i].toNat : Int) ≤ 90) := by omega
          have p5 : ((v[i].toNat : Int) ≤ 122) := by omega
          have p6 : ((v[i].toNat : Int) == 45) = false := by rw [beq_eq_false_iff_ne]; omega
          have p7 : ((v[i].toNat : Int) == 46) = false := by rw [beq_eq_false_iff_ne]; omega
          have HN := Lib.hid (HG.out i hlt (decide_eq_false (by omega)))
          clear HG HA HT hq
          go_wp2
          go_ret
          exact ⟨by rw [HN.out]; rfl, Below.refl _ _⟩
        · have p0 : ¬ ((48 : Int) ≤ (v[i].toNat : Int)) := by omega
          have p2 : ¬ ((65 : Int) ≤ (v[i].toNat : Int)) := by omega
          have p4 : ¬ ((97 : Int) ≤ (v[i].toNat : Int)) := by omega
          have p1 : ((v[i].toNat : Int) ≤ 57) := by omega
          have p3 : ((v[i].toNat : Int) ≤ 90) := by omega
          have p5 : ((v[i].toNat : Int) ≤ 122) := by omega
          have p6 : ((v[i].toNat : Int) == 45) = true := by rw [beq_iff_eq]; omega
          have p7 : ((v[i].toNat : Int) == 46) = false := by rw [beq_eq_false_iff_ne]; omega
          have HT2 : Hid ((v.take (i + 1)).all Ac.hostB = true) := Lib.hid (by rw [all_snoc Ac.hostB v i hlt, HT.out, show Ac.hostB v[i] = true from decide_eq_true (by omega)]; rfl)
          clear HG HA HT hq
          go_wp2
          go_round
          case rel => exact ⟨i + 1, by omega, by go_num, HT2⟩
          case measure => simp [intOf] <;> omega
        · have p0 : ¬ ((48 : Int) ≤ (v[i].toNat : Int)) := by omega
          have p2 : ¬ ((65 : Int) ≤ (v[i].toNat : Int)) := by omega
          have p4 : ¬ ((97 : Int) ≤ (v[i].toNat : Int)) := by omega
          have p1 : ((v[i].toNat : Int) ≤ 57) := by omega
          have p3 : ((v[i].toNat : Int) ≤ 90) := by omega
          have p5 : ((v[i].toNat : Int) ≤ 122) := by omega
          have p6 : ((v[i].toNat : Int) == 45) = false := by rw [beq_eq_false_iff_ne]; omega
          have p7 : ((v[i].toNat : Int) == 46) = true := by rw [beq_iff_eq]; omega
          have HT2 : Hid ((v.take (i + 1)).all Ac.hostB = true) := Lib.hid (by rw [all_snoc Ac.hostB v i hlt, HT.out, show Ac.hostB v[i] = true from decide_eq_true (by omega)]; rfl)
          clear HG HA HT hq
          go_wp2
          go_round
          case rel => exact ⟨i + 1, by omega, by go_num, HT2⟩
          case measure => simp [intOf] <;> omega
        · have p0 : ¬ ((48 : Int) ≤ (v[i].toNat : Int)) := by omega
          have p2 : ¬ ((65 : Int) ≤ (v[i].toNat : Int)) := by omega
          have p4 : ¬ ((97 : Int) ≤ (v[i].toNat : Int)) := by omega
          have p1 : ((v[i].toNat : Int) ≤ 57) := by omega
          have p3 : ((v[i].toNat : Int) ≤ 90) := by omega
          have p5 : ((v[i].toNat : Int) ≤ 122) := by omega
          have p6 : ((v[i].toNat : Int) == 45) = false := by rw [beq_eq_false_iff_ne]; omega
          have p7 : ((v[i].toNat : Int) == 46) = false := by rw [beq_eq_false_iff_ne]; omega
          have HN := Lib.hid (HG.out i hlt (decide_eq_false (by omega)))
          clear HG HA HT hq
          go_wp2
          go_ret
          exact ⟨by rw [HN.out]; rfl, Below.refl _ _⟩
        · have p0 : ((48 : Int) ≤ (v[i].toNat : Int)) := by omega
          have p2 : ¬ ((65 : Int) ≤ (v[i].toNat : Int)) := by omega
          have p4 : ¬ ((97 : Int) ≤ (v[i].toNat : Int)) := by omega
          have p1 : ((v[i].toNat : Int) ≤ 57) := by omega
          have p3 : ((v[i].toNat : Int) ≤ 90) := by omega
          have p5 : ((v[i].toNat : Int) ≤ 122) := by omega
          have p6 : ((v[i].toNat : Int) == 45) = false := by rw [beq_eq_false_iff_ne]; omega
          have p7 : ((v[i].toNat : Int) == 46) = false := by rw [beq_eq_false_iff_ne]; omega
          have HT2 : Hid ((v.take (i + 1)).all Ac.hostB = true) := Lib.hid (by rw [all_snoc Ac.hostB v i hlt, HT.out, show Ac.hostB v[i] = true from decide_eq_true (by omega)]; rfl)
          clear HG HA HT hq
          go_wp2
          go_round
          case rel => exact ⟨i + 1, by omega, by go_num, HT2⟩
          case measure => simp [intOf] <;> omega
        · have p0 : ((48 : Int) ≤ (v[i].toNat : Int)) := by omega
          have p2 : ¬ ((65 : Int) ≤ (v[i].toNat : Int)) := by omega
          have p4 : ¬ ((97 : Int) ≤ (v[i].toNat : Int)) := by omega
          have p1 : ¬ ((v[i].toNat : Int) ≤ 57) := by omega
          have p3 : ((v[i].toNat : Int) ≤ 90) := by omega
          have p5 : ((v[i].toNat : Int) ≤ 122) := by omega
          have p6 : ((v[i].toNat : Int) == 45) = false := by rw [beq_eq_false_iff_ne]; omega
          have p7 : ((v[i].toNat : Int) == 46) = false := by rw [beq_eq_false_iff_ne]; omega
          have HN := Lib.hid (HG.out i hlt (decide_eq_false (by omega)))
          clear HG HA HT hq
          go_wp2
          go_ret
          exact ⟨by rw [HN.out]; rfl, Below.refl _ _⟩
        · have p0 : ((48 : Int) ≤ (v[i].toNat : Int)) := by omega
          have p2 : ((65 : Int) ≤ (v[i].toNat : Int)) := by omega
          have p4 : ¬ ((97 : Int) ≤ (v[i].toNat : Int)) := by omega
          have p1 : ¬ ((v[i].toNat : Int) ≤ 57) := by omega
          have p3 : ((v[i].toNat : Int) ≤ 90) := by omega
          have p5 : ((v[i].toNat : Int) ≤ 122) := by omega
          have p6 : ((v[i].toNat : Int) == 45) = false := by rw [beq_eq_false_iff_ne]; omega
          have p7 : ((v[i].toNat : Int) == 46) = false := by rw [beq_eq_false_iff_ne]; omega
          have HT2 : Hid ((v.take (i + 1)).all Ac.hostB = true) := Lib.hid (by rw [all_snoc Ac.hostB v i hlt, HT.out, show Ac.hostB v[i] = true from decide_eq_true (by omega)]; rfl)
          clear HG HA HT hq
          go_wp2
          go_round
          case rel => exact ⟨i + 1, by omega, by go_num, HT2⟩
          case measure => simp [intOf] <;> omega
        · have p0 : ((48 : Int) ≤ (v[i].toNat : Int)) := by omega
          have p2 : ((65 : Int) ≤ (v[i].toNat : Int)) := by omega
          have p4 : ¬ ((97 : Int) ≤ (v[i].toNat : Int)) := by omega
          have p1 : ¬ ((v[i].toNat : Int) ≤ 57) := by omega
          have p3 : ¬ ((v[i].toNat : Int) ≤ 90) := by omega
          have p5 : ((v[i].toNat : Int) ≤ 122) := by omega
          have p6 : ((v[i].toNat : Int) == 45) = false := by rw [beq_eq_false_iff_ne]; omega
          have p7 : ((v[i].toNat : Int) == 46) = false := by rw [beq_eq_false_iff_ne]; omega
          have HN := Lib.hid (HG.out i hlt (decide_eq_false (by omega)))
          clear HG HA HT hq
          go_wp2
          go_ret
          exact ⟨by rw [HN.out]; rfl, Below.refl _ _⟩
        · have p0 : ((48 : Int) ≤ (v[i].toNat : Int)) := by omega
          have p2 : ((65 : Int) ≤ (v[i].toNat : Int)) := by omega
          have p4 : ((97 : Int) ≤ (v[i].toNat : Int)) := by omega
          have p1 : ¬ ((v[i].toNat : Int) ≤ 57) := by omega
          have p3 : ¬ ((v[i].toNat : Int) ≤ 90) := by omega
          have p5 : ((v[i].toNat : Int) ≤ 122) := by omega
          have p6 : ((v[i].toNat : Int) == 45) = false := by rw [beq_eq_false_iff_ne]; omega
          have p7 : ((v[i].toNat : Int) == 46) = false := by rw [beq_eq_false_iff_ne]; omega
          have HT2 : Hid ((v.take (i + 1)).all Ac.hostB = true) := Lib.hid (by rw [all_snoc Ac.hostB v i hlt, HT.out, show Ac.hostB v[i] = true from decide_eq_true (by omega)]; rfl)
          clear HG HA HT hq
          go_wp2
          go_round
          case rel => exact ⟨i + 1, by omega, by go_num, HT2⟩
          case measure => simp [intOf] <;> omega
        · have p0 : ((48 : Int) ≤ (v[i].toNat : Int)) := by omega
          have p2 : ((65 : Int) ≤ (v[i].toNat : Int)) := by omega
          have p4 : ((97 : Int) ≤ (v[i].toNat : Int)) := by omega
          have p1 : ¬ ((v[i].toNat : Int) ≤ 57) := by omega
          have p3 : ¬ ((v[i].toNat : Int) ≤ 90) := by omega
          have p5 : ¬ ((v[i].toNat : Int) ≤ 122) := by omega
          have p6 : ((v[i].toNat : Int) == 45) = false := by rw [beq_eq_false_iff_ne]; omega
          have p7 : ((v[i].toNat : Int) == 46) = false := by rw [beq_eq_false_iff_ne]; omega
          have HN := Lib.hid (HG.out i hlt (decide_eq_false (by omega)))
          clear HG HA HT hq
          go_wp2
          go_ret
          exact ⟨by rw [HN.out]; rfl, Below.refl _ _⟩
      · obtain rfl : i = v.length := by omega
        have HR := Lib.hid (HA.out HT.out)
        clear HG HA HT
        go_wp2
        go_ret
        exact ⟨by rw [HR.out]; rfl, Below.refl _ _⟩
  have q1 : (k == [104, 111, 115, 116]) = false := by simpa [Ac.hostT] using h1
  by_cases h2 : k = Ac.portT
  · have q2 : (k == [112, 111, 114, 116]) = true := by rw [h2]; rfl
    rw [h2, Ac.good_port]
    clear h0 h1 h2
    have hC := rports_any v w hl
    unfold TwoOut at hC
    generalize Ac.prt v = R at *
    go_enter Tryz.func31, Tryz.ntmps31
    go_wp2_with fail
    refine hC.mono ?_
    rintro e w1 ⟨⟨x, y, rfl, hxy⟩, hb⟩
    clear hC
    go_wp2
    go_ret
    exact ⟨rfl, hb⟩
  have q2 : (k == [112, 111, 114, 116]) = false := by simpa [Ac.portT] using h2
  by_cases h3 : k = Ac.methT
  · have q3 : (k == [109, 101, 116, 104, 111, 100]) = true := by rw [h3]; rfl
    rw [h3, Ac.good_meth]
    clear h0 h1 h2 h3
    have hC := tokenR_any v w (by omega)
    generalize Ac.tok v = R at *
    go_enter Tryz.func31, Tryz.ntmps31
    go_wp2_with fail
    refine hC.mono ?_
    rintro e w1 ⟨rfl, rfl⟩
    go_wp2
    go_ret
    exact ⟨rfl, Below.refl _ _⟩
  have q3 : (k == [109, 101, 116, 104, 111, 100]) = false := by simpa [Ac.methT] using h3
  by_cases h4 : k = Ac.pathT
  · have q4 : (k == [112, 97, 116, 104]) = true := by rw [h4]; rfl
    rw [h4, Ac.good_path]
    clear h0 h1 h2 h3 h4
    go_enter Tryz.func31, Tryz.ntmps31
    go_wp2
    go_ret
    exact ⟨rfl, Below.refl _ _⟩
  have q4 : (k == [112, 97, 116, 104]) = false := by simpa [Ac.pathT] using h4
  by_cases h5 : k = Ac.timeT
  · have q5 : (k == [116, 105, 109, 101]) = true := by rw [h5]; rfl
    rw [h5, Ac.good_time]
    clear h0 h1 h2 h3 h4 h5
    by_cases l11 : v.length = 11
    · have hx : v[5]? = some v[5] := List.getElem?_eq_getElem (by omega)
      by_cases h45 : v[5] = 45
      · have e45 := u8eqk h45 45 rfl
        have HR : Hid ((Ac.win v).isSome = (decide (0 ≤ numI (Ac.clk (v.take 5))) && decide (0 ≤ numI (Ac.clk (v.drop 6))))) := Lib.hid (by rw [Ac.win_at l11 (by rw [hx, h45]), Ac.both_some])
        have h1 := fun W => rclock_any (v.take 5) W (by simp; omega)
        have h2 := fun W => rclock_any (v.drop 6) W (by simp; omega)
        generalize (Ac.win v).isSome = R at *
        generalize numI (Ac.clk (v.take 5)) = x at *
        generalize numI (Ac.clk (v.drop 6)) = y at *
        have hd6 : (v.drop 6).take 5 = v.drop 6 := List.take_of_length_le (by simp; omega)
        have lI : (v.length : Int) = 11 := by omega
        clear hx h45
        by_cases g1 : 0 ≤ x
        · have HR2 : Hid (R = decide (0 ≤ y)) := Lib.hid (by rw [HR.out, decide_eq_true g1]; rfl)
          clear HR
          by_cases g2 : 0 ≤ y
          · have HR3 : Hid (R = true) := Lib.hid (by rw [HR2.out]; exact decide_eq_true g2)
            clear HR2
            go_enter Tryz.func31, Tryz.ntmps31
            go_wp2_with fail
            refine (h1 _).mono ?_
            rintro e w1 ⟨rfl, hw⟩
            subst hw
            go_wp2_with fail
            refine (h2 _).mono ?_
            rintro e w1 ⟨rfl, hw⟩
            subst hw
            go_wp2
            go_ret
            exact ⟨by rw [HR3.out]; rfl, Below.refl _ _⟩
          · have HR3 := HR2
            clear HR2
            go_enter Tryz.func31, Tryz.ntmps31
            go_wp2_with fail
            refine (h1 _).mono ?_
            rintro e w1 ⟨rfl, hw⟩
            subst hw
            go_wp2_with fail
            refine (h2 _).mono ?_
            rintro e w1 ⟨rfl, hw⟩
            subst hw
            go_wp2
            go_ret
            exact ⟨by rw [HR3.out]; rfl, Below.refl _ _⟩
        · have HR3 : Hid (R = false) := Lib.hid (by rw [HR.out, decide_eq_false g1]; rfl)
          clear HR
          go_enter Tryz.func31, Tryz.ntmps31
          go_wp2_with fail
          refine (h1 _).mono ?_
          rintro e w1 ⟨rfl, hw⟩
          subst hw
          go_wp2
          go_ret
          exact ⟨by rw [HR3.out]; rfl, Below.refl _ _⟩
      · have e45 := u8nek h45 45 rfl
        have HR : Hid ((Ac.win v).isSome = false) := Lib.hid (by rw [Ac.win_not (by rintro ⟨_, h⟩; rw [hx] at h; injection h with h; exact h45 h)]; rfl)
        generalize (Ac.win v).isSome = R at *
        have lI : (v.length : Int) = 11 := by omega
        clear hx h45
        go_enter Tryz.func31, Tryz.ntmps31
        go_wp2
        go_ret
        exact ⟨by rw [HR.out]; rfl, Below.refl _ _⟩
    · have HR : Hid ((Ac.win v).isSome = false) := Lib.hid (by rw [Ac.win_not (fun h => l11 h.1)]; rfl)
      generalize (Ac.win v).isSome = R at *
      have lI : ((v.length : Int) == 11) = false := by rw [beq_eq_false_iff_ne]; omega
      go_enter Tryz.func31, Tryz.ntmps31
      go_wp2
      go_ret
      exact ⟨by rw [HR.out]; rfl, Below.refl _ _⟩
  have q5 : (k == [116, 105, 109, 101]) = false := by simpa [Ac.timeT] using h5
  have HR := Lib.hid (Ac.good_none (v := v) ⟨h0, h1, h2, h3, h4, h5⟩)
  generalize Ac.good k v = R at *
  clear h0 h1 h2 h3 h4 h5
  go_enter Tryz.func31, Tryz.ntmps31
  go_wp2
  go_ret
  exact ⟨by rw [HR.out]; rfl, Below.refl _ _⟩
end Go.Proofs.YtgkphjbcaidcpaaGreatDoor
set_option linter.unusedVariables false
set_option linter.unusedSimpArgs false
namespace Go.Proofs.YtgkphjbcaidcpaaGreatDoor
open Go.RowKit

set_option maxRecDepth 100000
theorem shr_eq (x n d : Nat) : (((x : Int) / 2 ^ d) == ((n : Int) / 2 ^ d)) = (x / 2 ^ d == n / 2 ^ d) := by
  rw [Bool.eq_iff_iff, beq_iff_eq, beq_iff_eq]
  have e : ∀ z : Nat, ((z : Int) / 2 ^ d) = ((z / 2 ^ d : Nat) : Int) := fun z => by rw [Int.natCast_ediv, Int.natCast_pow]; rfl
  rw [e, e]; omega
theorem Ac.win_parts {s : List UInt8} {x y : Nat} (h : Ac.win s = some (x, y)) : s.length = 11 ∧ Ac.clk (s.take 5) = some x ∧ Ac.clk (s.drop 6) = some y := by
  unfold Ac.win at h
  split at h
  · rename_i h0
    cases h1 : Ac.clk (s.take 5) with
    | none => rw [h1, Ac.both_l] at h; cases h
    | some a =>
      cases h2 : Ac.clk (s.drop 6) with
      | none => rw [h2, Ac.both_r] at h; cases h
      | some b => rw [h1, h2] at h; cases h; exact ⟨h0.1, rfl, rfl⟩
  · cases h
set_option maxHeartbeats 4000000 in
theorem rholds_any (k v : List UInt8) (a : Ac.Ask) (w : World) (ha : AskOK a) (hok : ValOK k v) :
    Calls Tryz.prog 33 #[.string (bs k), .string (bs v), askV a] w fun e w' => e = .returned (.bool (Ac.holds k v a)) ∧ Below w.heap.size w w' := by
  have hl := hok.len
  have hpos := hok.pos
  have hg := hok.good
  have hn1 := ha.n1
  have hn2 := ha.n2
  have hal := alloc_below w (.cells #[.int .i64 a.src, .string (bs a.host), .int .i64 a.port, .string (bs a.meth), .string (bs a.path), .int .i64 a.now] 37)
  have hra := heap_alloc_new w (.cells #[.int .i64 a.src, .string (bs a.host), .int .i64 a.port, .string (bs a.meth), .string (bs a.path), .int .i64 a.now] 37)
  clear hok
  unfold askV
  rcases Ac.kinds hg with rfl | rfl | rfl | rfl | rfl | rfl
  · have q0 : (Ac.srcT == [115, 114, 99]) = true := by decide
    rw [Ac.good_src] at hg
    obtain ⟨⟨n, b⟩, hn⟩ := Option.isSome_iff_exists.1 hg
    obtain ⟨hn9, hb9⟩ := Ac.net_lt hn
    have hC := fun W => rnetwork_any v W hl
    unfold TwoOut at hC
    have HE : Hid (Ac.holds Ac.srcT v a = (((a.src % 4294967296) / 2 ^ (32 - b)) == ((n : Int) / 2 ^ (32 - b)))) := Lib.hid (by
      rw [Ac.holds_src hn, ← shr_eq, show (((a.src % 4294967296).toNat : Nat) : Int) = a.src % 4294967296 by omega])
    generalize Ac.holds Ac.srcT v a = R at *
    rw [hn] at hC
    have hsub : (32 : Int) - (b : Int) = ((32 - b : Nat) : Int) := by omega
    have hw1 : ((32 - b : Nat) : Int) % 18446744073709551616 = ((32 - b : Nat) : Int) := by omega
    have hw2 : (n : Int) % 4294967296 = (n : Int) := by omega
    have hwr : IntKind.i64.wrap ((32 : Int) - (b : Int)) = ((32 - b : Nat) : Int) := by rw [IntKind.wrap_i64]; omega
    have hmin : min (32 - b) 32 = 32 - b := by omega
    clear hn hg
    go_enter Tryz.func33, Tryz.ntmps33
    go_upto_region 1 with fail
    generalize w.alloc (.cells #[.int .i64 a.src, .string (bs a.host), .int .i64 a.port, .string (bs a.meth), .string (bs a.path), .int .i64 a.now] 37) = w1 at *
    obtain ⟨a0, a1, a2, a3, a4, a5⟩ := row_facts6 hra
    go_wp2_with fail
    refine (hC _).mono ?_
    rintro e w2 ⟨⟨x, y, rfl, hxy⟩, hb2⟩
    obtain ⟨rfl, rfl⟩ := hxy n b rfl
    have hra2 := (hb2.block _ (Array.getElem?_eq_some_iff.1 hra).1).trans hra
    clear a0 a1 a2 a3 a4 a5 hC hxy
    obtain ⟨a0, a1, a2, a3, a4, a5⟩ := row_facts6 hra2
    go_wp2
    go_ret
    exact ⟨by rw [HE.out]; rfl, bnext hal hb2 hal.size⟩
  · have q0 : (Ac.hostT == [115, 114, 99]) = false := by decide
    have q1 : (Ac.hostT == [104, 111, 115, 116]) = true := by decide
    have hfl := fold_length v
    have hfh := fold_length a.host
    have hL1 := fun W => lower_any a.host W (by have := ha.host; omega)
    have hL2 := fun W => lower_any v W (by omega)
    have h0 : 0 < (fold v).length := by omega
    have hx : (fold v)[0]? = some (fold v)[0] := List.getElem?_eq_getElem h0
    have hhd : (fold v).head? = (fold v)[0]? := by cases fold v <;> rfl
    have HS := Lib.hid fun (h : (fold v).head? = some 46) => Ac.holds_suf h a
    have HX := Lib.hid fun (h : (fold v).head? ≠ some 46) => Ac.holds_ex h a
    have hha := ha.host
    have hff : (fold v).length ≤ 4194304 := by omega
    have hfg : (fold a.host).length ≤ 4194304 := by omega
    clear hfl hfh
    generalize Ac.holds Ac.hostT v a = R at *
    generalize fold v = f at *
    generalize fold a.host = h at *
    by_cases h46 : f[0] = 46
    · have e46 : ((f[0].toNat : Int) != 46) = false := by rw [bne, u8eqk h46 46 rfl]; rfl
      have HR := Lib.hid (HS.out (by rw [hhd, hx, h46]))
      clear HS HX hhd hx h46 hg
      have h1f : (1 : Int) ≤ (f.length : Int) := by omega
      by_cases e1 : h = f.drop 1
      · have i1 : (h == f.drop 1) = true := by rw [beq_iff_eq]; exact e1
        have HR2 : Hid (R = true) := Lib.hid (by rw [HR.out, i1]; rfl)
        clear HR; have HR := HR2; clear HR2
        have i2 : (h == f.tail.take (f.length - 1)) = true := by rw [List.take_of_length_le (by simp), ← List.drop_one]; exact i1
        clear i1 e1
        go_enter Tryz.func33, Tryz.ntmps33
        go_upto_region 1 with fail
        generalize w.alloc (.cells #[.int .i64 a.src, .string (bs a.host), .int .i64 a.port, .string (bs a.meth), .string (bs a.path), .int .i64 a.now] 37) = w1 at *
        obtain ⟨a0, a1, a2, a3, a4, a5⟩ := row_facts6 hra
        go_wp2_with fail
        refine (hL1 _).mono ?_
        rintro e w2 ⟨rfl, hb2⟩
        clear a0 a1 a2 a3 a4 a5 hL1
        go_wp2_with fail
        refine (hL2 _).mono ?_
        rintro e w3 ⟨rfl, hb3⟩
        clear hL2
        go_wp2
        go_ret
        exact ⟨by rw [HR.out]; rfl, bnext (bnext hal hb2 hal.size) hb3 (bnext hal hb2 hal.size).size⟩
      · have i1 : (h == f.drop 1) = false := by rw [beq_eq_false_iff_ne]; exact e1
        have HR1 : Hid (R = sufB f h) := Lib.hid (by rw [HR.out, i1]; rfl)
        clear HR
        have i2 : (h == f.tail.take (f.length - 1)) = false := by rw [List.take_of_length_le (by simp), ← List.drop_one]; exact i1
        clear i1 e1
        by_cases e2 : f.length ≤ h.length
        · have e2i : (f.length : Int) ≤ (h.length : Int) := by omega
          have HR : Hid (R = (h.drop (h.length - f.length) == f)) := Lib.hid (by rw [HR1.out]; rfl)
          clear HR1
          have htl : (h.drop (h.length - f.length)).take f.length = h.drop (h.length - f.length) := List.take_of_length_le (by simp; omega)
          have hti : ((h.length : Int) - (f.length : Int)).toNat = h.length - f.length := by omega
          go_enter Tryz.func33, Tryz.ntmps33
          go_upto_region 1 with fail
          generalize w.alloc (.cells #[.int .i64 a.src, .string (bs a.host), .int .i64 a.port, .string (bs a.meth), .string (bs a.path), .int .i64 a.now] 37) = w1 at *
          obtain ⟨a0, a1, a2, a3, a4, a5⟩ := row_facts6 hra
          go_wp2_with fail
          refine (hL1 _).mono ?_
          rintro e w2 ⟨rfl, hb2⟩
          clear a0 a1 a2 a3 a4 a5 hL1
          go_wp2_with fail
          refine (hL2 _).mono ?_
          rintro e w3 ⟨rfl, hb3⟩
          clear hL2
          go_wp2
          go_ret
          exact ⟨by rw [HR.out]; rfl, bnext (bnext hal hb2 hal.size) hb3 (bnext hal hb2 hal.size).size⟩
        · have e2i : ¬ ((f.length : Int) ≤ (h.length : Int)) := by omega
          have HR : Hid (R = false) := Lib.hid (by rw [HR1.out]; cases hs : sufB f h with | false => rfl | true => exact absurd (sufB_len hs) e2)
          clear HR1
          go_enter Tryz.func33, Tryz.ntmps33
          go_upto_region 1 with fail
          generalize w.alloc (.cells #[.int .i64 a.src, .string (bs a.host), .int .i64 a.port, .string (bs a.meth), .string (bs a.path), .int .i64 a.now] 37) = w1 at *
          obtain ⟨a0, a1, a2, a3, a4, a5⟩ := row_facts6 hra
          go_wp2_with fail
          refine (hL1 _).mono ?_
          rintro e w2 ⟨rfl, hb2⟩
          clear a0 a1 a2 a3 a4 a5 hL1
          go_wp2_with fail
          refine (hL2 _).mono ?_
          rintro e w3 ⟨rfl, hb3⟩
          clear hL2
          go_wp2
          go_ret
          exact ⟨by rw [HR.out]; rfl, bnext (bnext hal hb2 hal.size) hb3 (bnext hal hb2 hal.size).size⟩
    · have e46 : ((f[0].toNat : Int) != 46) = true := by rw [bne, u8nek h46 46 rfl]; rfl
      have HR := Lib.hid (HX.out (by rw [hhd, hx]; intro e; injection e with e; exact h46 e))
      clear HS HX hhd hx h46 hg
      go_enter Tryz.func33, Tryz.ntmps33
      go_upto_region 1 with fail
      generalize w.alloc (.cells #[.int .i64 a.src, .string (bs a.host), .int .i64 a.port, .string (bs a.meth), .string (bs a.path), .int .i64 a.now] 37) = w1 at *
      obtain ⟨a0, a1, a2, a3, a4, a5⟩ := row_facts6 hra
      go_wp2_with fail
      refine (hL1 _).mono ?_
      rintro e w2 ⟨rfl, hb2⟩
      clear a0 a1 a2 a3 a4 a5 hL1
      go_wp2_with fail
      refine (hL2 _).mono ?_
      rintro e w3 ⟨rfl, hb3⟩
      clear hL2
      go_wp2
      go_ret
      exact ⟨by rw [HR.out]; rfl, bnext (bnext hal hb2 hal.size) hb3 (bnext hal hb2 hal.size).size⟩
  · have q0 : (Ac.portT == [115, 114, 99]) = false := by decide
    have q1 : (Ac.portT == [104, 111, 115, 116]) = false := by decide
    have q2 : (Ac.portT == [112, 111, 114, 116]) = true := by decide
    rw [Ac.good_port] at hg
    obtain ⟨⟨x, y⟩, hn⟩ := Option.isSome_iff_exists.1 hg
    have hC := fun W => rports_any v W hl
    unfold TwoOut at hC
    have HE := Lib.hid (Ac.holds_port hn a)
    rw [hn] at hC
    generalize Ac.holds Ac.portT v a = R at *
    clear hn hg
    by_cases g1 : (x : Int) ≤ a.port
    · have HR : Hid (R = decide (a.port ≤ (y : Int))) := Lib.hid (by rw [HE.out, decide_eq_true g1]; rfl)
      clear HE
      go_enter Tryz.func33, Tryz.ntmps33
      go_upto_region 1 with fail
      generalize w.alloc (.cells #[.int .i64 a.src, .string (bs a.host), .int .i64 a.port, .string (bs a.meth), .string (bs a.path), .int .i64 a.now] 37) = w1 at *
      obtain ⟨a0, a1, a2, a3, a4, a5⟩ := row_facts6 hra
      go_wp2_with fail
      refine (hC _).mono ?_
      rintro e w2 ⟨⟨x9, y9, rfl, hxy⟩, hb2⟩
      obtain ⟨rfl, rfl⟩ := hxy x y rfl
      have hra2 := (hb2.block _ (Array.getElem?_eq_some_iff.1 hra).1).trans hra
      clear a0 a1 a2 a3 a4 a5 hC hxy
      obtain ⟨a0, a1, a2, a3, a4, a5⟩ := row_facts6 hra2
      go_wp2
      go_ret
      exact ⟨by rw [HR.out]; rfl, bnext hal hb2 hal.size⟩
    · have HR : Hid (R = false) := Lib.hid (by rw [HE.out, decide_eq_false g1]; rfl)
      clear HE
      go_enter Tryz.func33, Tryz.ntmps33
      go_upto_region 1 with fail
      generalize w.alloc (.cells #[.int .i64 a.src, .string (bs a.host), .int .i64 a.port, .string (bs a.meth), .string (bs a.path), .int .i64 a.now] 37) = w1 at *
      obtain ⟨a0, a1, a2, a3, a4, a5⟩ := row_facts6 hra
      go_wp2_with fail
      refine (hC _).mono ?_
      rintro e w2 ⟨⟨x9, y9, rfl, hxy⟩, hb2⟩
      obtain ⟨rfl, rfl⟩ := hxy x y rfl
      have hra2 := (hb2.block _ (Array.getElem?_eq_some_iff.1 hra).1).trans hra
      clear a0 a1 a2 a3 a4 a5 hC hxy
      obtain ⟨a0, a1, a2, a3, a4, a5⟩ := row_facts6 hra2
      go_wp2
      go_ret
      exact ⟨by rw [HR.out]; rfl, bnext hal hb2 hal.size⟩
  · have q0 : (Ac.methT == [115, 114, 99]) = false := by decide
    have q1 : (Ac.methT == [104, 111, 115, 116]) = false := by decide
    have q2 : (Ac.methT == [112, 111, 114, 116]) = false := by decide
    have q3 : (Ac.methT == [109, 101, 116, 104, 111, 100]) = true := by decide
    have HE := Lib.hid (Ac.holds_meth v a)
    generalize Ac.holds Ac.methT v a = R at *
    clear hg
    go_enter Tryz.func33, Tryz.ntmps33
    go_upto_region 1 with fail
    generalize w.alloc (.cells #[.int .i64 a.src, .string (bs a.host), .int .i64 a.port, .string (bs a.meth), .string (bs a.path), .int .i64 a.now] 37) = w1 at *
    obtain ⟨a0, a1, a2, a3, a4, a5⟩ := row_facts6 hra
    go_wp2
    go_ret
    exact ⟨by rw [HE.out]; rfl, hal⟩
  · have q0 : (Ac.pathT == [115, 114, 99]) = false := by decide
    have q1 : (Ac.pathT == [104, 111, 115, 116]) = false := by decide
    have q2 : (Ac.pathT == [112, 111, 114, 116]) = false := by decide
    have q3 : (Ac.pathT == [109, 101, 116, 104, 111, 100]) = false := by decide
    have q4 : (Ac.pathT == [112, 97, 116, 104]) = true := by decide
    have HE := Lib.hid (Ac.holds_path v a)
    generalize Ac.holds Ac.pathT v a = R at *
    have hC := fun W => rglob_any v a.path W hl ha.path
    clear hg
    go_enter Tryz.func33, Tryz.ntmps33
    go_upto_region 1 with fail
    generalize w.alloc (.cells #[.int .i64 a.src, .string (bs a.host), .int .i64 a.port, .string (bs a.meth), .string (bs a.path), .int .i64 a.now] 37) = w1 at *
    obtain ⟨a0, a1, a2, a3, a4, a5⟩ := row_facts6 hra
    go_wp2_with fail
    refine (hC _).mono ?_
    rintro e w2 ⟨rfl, hb2⟩
    go_wp2
    go_ret
    exact ⟨by rw [HE.out]; rfl, bnext hal hb2 hal.size⟩
  · have q0 : (Ac.timeT == [115, 114, 99]) = false := by decide
    have q1 : (Ac.timeT == [104, 111, 115, 116]) = false := by decide
    have q2 : (Ac.timeT == [112, 111, 114, 116]) = false := by decide
    have q3 : (Ac.timeT == [109, 101, 116, 104, 111, 100]) = false := by decide
    have q4 : (Ac.timeT == [112, 97, 116, 104]) = false := by decide
    have q5 : (Ac.timeT == [116, 105, 109, 101]) = true := by decide
    rw [Ac.good_time] at hg
    obtain ⟨⟨x, y⟩, hn⟩ := Option.isSome_iff_exists.1 hg
    have HE := Lib.hid (Ac.holds_time hn a)
    obtain ⟨l11, k1, k2⟩ := Ac.win_parts hn
    generalize Ac.holds Ac.timeT v a = R at *
    have h1 := fun W => rclock_any (v.take 5) W (by simp; omega)
    have h2 := fun W => rclock_any (v.drop 6) W (by simp; omega)
    rw [k1, show numI (some x) = (x : Int) from rfl] at h1
    rw [k2, show numI (some y) = (y : Int) from rfl] at h2
    have hd6 : (v.drop 6).take 5 = v.drop 6 := List.take_of_length_le (by simp; omega)
    have lI : (v.length : Int) = 11 := by omega
    clear hn hg k1 k2
    have hs : ((0 < a.now → (max a.now 0) % 86400 = a.now % 86400) ∧ (¬ 0 < a.now → (max a.now 0) % 86400 = 0)) := ⟨fun h => by omega, fun h => by omega⟩
    have HS := Lib.hid hs
    generalize hz : (max a.now 0) % 86400 = z at *
    have hz0 : 0 ≤ z ∧ z < 86400 := by omega
    obtain ⟨hz1, hz2⟩ := hz0
    clear hs hz
    by_cases gn : 0 < a.now
    · have HZ := Lib.hid (HS.out.1 gn)
      obtain rfl := HZ.out
      clear HS HZ
      by_cases g1 : (x : Int) < (y : Int)
      · by_cases g2 : (x : Int) ≤ a.now % 86400
        · have HR : Hid (R = decide (a.now % 86400 < (y : Int))) := Lib.hid (by rw [HE.out]; unfold Ac.winB; rw [if_pos g1, decide_eq_true g2, Bool.true_and])
          clear HE
          go_enter Tryz.func33, Tryz.ntmps33
          go_upto_region 1 with fail
          generalize w.alloc (.cells #[.int .i64 a.src, .string (bs a.host), .int .i64 a.port, .string (bs a.meth), .string (bs a.path), .int .i64 a.now] 37) = w1 at *
          obtain ⟨a0, a1, a2, a3, a4, a5⟩ := row_facts6 hra
          go_wp2_with fail
          refine (h1 _).mono ?_
          rintro e w2 ⟨rfl, hw⟩
          subst hw
          go_wp2_with fail
          refine (h2 _).mono ?_
          rintro e w2 ⟨rfl, hw⟩
          subst hw
          go_wp2
          go_ret
          exact ⟨by rw [HR.out]; rfl, hal⟩
        · have HR : Hid (R = false) := Lib.hid (by rw [HE.out]; unfold Ac.winB; rw [if_pos g1, decide_eq_false g2, Bool.false_and])
          clear HE
          go_enter Tryz.func33, Tryz.ntmps33
          go_upto_region 1 with fail
          generalize w.alloc (.cells #[.int .i64 a.src, .string (bs a.host), .int .i64 a.port, .string (bs a.meth), .string (bs a.path), .int .i64 a.now] 37) = w1 at *
          obtain ⟨a0, a1, a2, a3, a4, a5⟩ := row_facts6 hra
          go_wp2_with fail
          refine (h1 _).mono ?_
          rintro e w2 ⟨rfl, hw⟩
          subst hw
          go_wp2_with fail
          refine (h2 _).mono ?_
          rintro e w2 ⟨rfl, hw⟩
          subst hw
          go_wp2
          go_ret
          exact ⟨by rw [HR.out]; rfl, hal⟩
      · by_cases g2 : (x : Int) ≤ a.now % 86400
        · have HR : Hid (R = true) := Lib.hid (by rw [HE.out]; unfold Ac.winB; rw [if_neg g1, decide_eq_true g2, Bool.true_or])
          clear HE
          go_enter Tryz.func33, Tryz.ntmps33
          go_upto_region 1 with fail
          generalize w.alloc (.cells #[.int .i64 a.src, .string (bs a.host), .int .i64 a.port, .string (bs a.meth), .string (bs a.path), .int .i64 a.now] 37) = w1 at *
          obtain ⟨a0, a1, a2, a3, a4, a5⟩ := row_facts6 hra
          go_wp2_with fail
          refine (h1 _).mono ?_
          rintro e w2 ⟨rfl, hw⟩
          subst hw
          go_wp2_with fail
          refine (h2 _).mono ?_
          rintro e w2 ⟨rfl, hw⟩
          subst hw
          go_wp2
          go_ret
          exact ⟨by rw [HR.out]; rfl, hal⟩
        · have HR : Hid (R = (decide ((x : Int) ≤ a.now % 86400) || decide (a.now % 86400 < (y : Int)))) := Lib.hid (by rw [HE.out]; unfold Ac.winB; rw [if_neg g1])
          clear HE
          go_enter Tryz.func33, Tryz.ntmps33
          go_upto_region 1 with fail
          generalize w.alloc (.cells #[.int .i64 a.src, .string (bs a.host), .int .i64 a.port, .string (bs a.meth), .string (bs a.path), .int .i64 a.now] 37) = w1 at *
          obtain ⟨a0, a1, a2, a3, a4, a5⟩ := row_facts6 hra
          go_wp2_with fail
          refine (h1 _).mono ?_
          rintro e w2 ⟨rfl, hw⟩
          subst hw
          go_wp2_with fail
          refine (h2 _).mono ?_
          rintro e w2 ⟨rfl, hw⟩
          subst hw
          go_wp2
          go_ret
          exact ⟨by rw [HR.out]; rfl, hal⟩
    · have HZ := Lib.hid (HS.out.2 gn)
      obtain rfl := HZ.out
      clear HS HZ
      by_cases g1 : (x : Int) < (y : Int)
      · by_cases g2 : (x : Int) ≤ 0
        · have HR : Hid (R = decide (0 < y)) := Lib.hid (by rw [HE.out]; unfold Ac.winB; rw [if_pos g1, decide_eq_true g2, Bool.true_and]; simp)
          clear HE
          go_enter Tryz.func33, Tryz.ntmps33
          go_upto_region 1 with fail
          generalize w.alloc (.cells #[.int .i64 a.src, .string (bs a.host), .int .i64 a.port, .string (bs a.meth), .string (bs a.path), .int .i64 a.now] 37) = w1 at *
          obtain ⟨a0, a1, a2, a3, a4, a5⟩ := row_facts6 hra
          go_wp2_with fail
          refine (h1 _).mono ?_
          rintro e w2 ⟨rfl, hw⟩
          subst hw
          go_wp2_with fail
          refine (h2 _).mono ?_
          rintro e w2 ⟨rfl, hw⟩
          subst hw
          go_wp2
          go_ret
          exact ⟨by rw [HR.out]; rfl, hal⟩
        · have HR : Hid (R = false) := Lib.hid (by rw [HE.out]; unfold Ac.winB; rw [if_pos g1, decide_eq_false g2, Bool.false_and])
          clear HE
          go_enter Tryz.func33, Tryz.ntmps33
          go_upto_region 1 with fail
          generalize w.alloc (.cells #[.int .i64 a.src, .string (bs a.host), .int .i64 a.port, .string (bs a.meth), .string (bs a.path), .int .i64 a.now] 37) = w1 at *
          obtain ⟨a0, a1, a2, a3, a4, a5⟩ := row_facts6 hra
          go_wp2_with fail
          refine (h1 _).mono ?_
          rintro e w2 ⟨rfl, hw⟩
          subst hw
          go_wp2_with fail
          refine (h2 _).mono ?_
          rintro e w2 ⟨rfl, hw⟩
          subst hw
          go_wp2
          go_ret
          exact ⟨by rw [HR.out]; rfl, hal⟩
      · by_cases g2 : (x : Int) ≤ 0
        · have HR : Hid (R = true) := Lib.hid (by rw [HE.out]; unfold Ac.winB; rw [if_neg g1, decide_eq_true g2, Bool.true_or])
          clear HE
          go_enter Tryz.func33, Tryz.ntmps33
          go_upto_region 1 with fail
          generalize w.alloc (.cells #[.int .i64 a.src, .string (bs a.host), .int .i64 a.port, .string (bs a.meth), .string (bs a.path), .int .i64 a.now] 37) = w1 at *
          obtain ⟨a0, a1, a2, a3, a4, a5⟩ := row_facts6 hra
          go_wp2_with fail
          refine (h1 _).mono ?_
          rintro e w2 ⟨rfl, hw⟩
          subst hw
          go_wp2_with fail
          refine (h2 _).mono ?_
          rintro e w2 ⟨rfl, hw⟩
          subst hw
          go_wp2
          go_ret
          exact ⟨by rw [HR.out]; rfl, hal⟩
        · have HR : Hid (R = decide (0 < y)) := Lib.hid (by rw [HE.out]; unfold Ac.winB; rw [if_neg g1]; rw [Bool.eq_iff_iff, Bool.or_eq_true, decide_eq_true_iff, decide_eq_true_iff, decide_eq_true_iff]; omega)
          clear HE
          go_enter Tryz.func33, Tryz.ntmps33
          go_upto_region 1 with fail
          generalize w.alloc (.cells #[.int .i64 a.src, .string (bs a.host), .int .i64 a.port, .string (bs a.meth), .string (bs a.path), .int .i64 a.now] 37) = w1 at *
          obtain ⟨a0, a1, a2, a3, a4, a5⟩ := row_facts6 hra
          go_wp2_with fail
          refine (h1 _).mono ?_
          rintro e w2 ⟨rfl, hw⟩
          subst hw
          go_wp2_with fail
          refine (h2 _).mono ?_
          rintro e w2 ⟨rfl, hw⟩
          subst hw
          go_wp2
          go_ret
          exact ⟨by rw [HR.out]; rfl, hal⟩
end Go.Proofs.YtgkphjbcaidcpaaGreatDoor
