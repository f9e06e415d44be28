/- Joined texts: tok.Token and the reference's; the words of a line; A pattern's holds. The conditions stand in each line. -/
import Derived.Test.YtgkphjbcaidcpaaGreatDoorM8
import Derived.BigQuiet
import Derived.Deep.QuietTactic
set_option linter.unusedVariables false
set_option linter.unusedSimpArgs false
namespace Go.Proofs.YtgkphjbcaidcpaaGreatDoor
open Go.RowKit

set_option maxRecDepth 100000
def othL : List UInt8 := [33, 35, 36, 37, 38, 39, 42, 43, 45, 46, 94, 95, 124, 126, 96]
def oth14 : List UInt8 := [33, 35, 36, 37, 38, 39, 42, 43, 45, 46, 94, 95, 124, 126]
def alnB (c : UInt8) : Bool := decide (48 ≤ c.toNat ∧ c.toNat ≤ 57 ∨ 97 ≤ c.toNat ∧ c.toNat ≤ 122 ∨ 65 ≤ c.toNat ∧ c.toNat ≤ 90)
theorem tok_oth : ∀ n : Fin 256, alnB (UInt8.ofNat n.val) = false → decide ((0 : Int) ≤ Lib.indexByte othL (UInt8.ofNat n.val)) = Ac.tokB (UInt8.ofNat n.val) := by decide +kernel
theorem tok_oth14 : ∀ n : Fin 256, alnB (UInt8.ofNat n.val) = false → Ac.tokB (UInt8.ofNat n.val) = (oth14.contains (UInt8.ofNat n.val) || (UInt8.ofNat n.val).toNat == 96) := by decide +kernel
theorem tok_aln {c : UInt8} (h : alnB c = true) : Ac.tokB c = true := by
  unfold Ac.tokB; unfold alnB at h; rw [h]; rfl
theorem tok_noaln {c : UInt8} (h : alnB c = false) : decide ((0 : Int) ≤ Lib.indexByte othL c) = Ac.tokB c := by
  obtain ⟨n, rfl⟩ := Ur.u8_fin c
  exact tok_oth n h
theorem tok_noaln14 {c : UInt8} (h : alnB c = false) : Ac.tokB c = (oth14.contains c || c.toNat == 96) := by
  obtain ⟨n, rfl⟩ := Ur.u8_fin c
  exact tok_oth14 n h
set_option maxHeartbeats 2000000 in
theorem tokenByte_any (c : UInt8) (w : World) : Calls Tryz.prog 49 #[.int .u8 c.toNat] w fun e w' => e = .returned (.bool (Ac.tokB c)) ∧ w = w' := by
  have hc255 : (c.toNat : Int) ≤ 255 := by have := c.toNat_lt; omega
  have HY := Lib.hid (tok_aln (c := c))
  have HN := Lib.hid (tok_noaln (c := c))
  have hI := fun W => Tryz.strings_IndexByte (bs othL) (c.toNat : Int) W
  rw [show ((c.toNat : Int).toNat).toUInt8 = c from by rw [Int.toNat_natCast]; exact UInt8.ofNat_toNat, bs_data] at hI
  generalize Ac.tokB c = R at *
  have hcl : (0 ≤ (c.toNat : Int) ∧ (c.toNat : Int) ≤ 47) ∨ (48 ≤ (c.toNat : Int) ∧ (c.toNat : Int) ≤ 57) ∨ (58 ≤ (c.toNat : Int) ∧ (c.toNat : Int) ≤ 64) ∨ (65 ≤ (c.toNat : Int) ∧ (c.toNat : Int) ≤ 90) ∨ (91 ≤ (c.toNat : Int) ∧ (c.toNat : Int) ≤ 96) ∨ (97 ≤ (c.toNat : Int) ∧ (c.toNat : Int) ≤ 122) ∨ (123 ≤ (c.toNat : Int) ∧ (c.toNat : Int) ≤ 255) := by omega
  rcases hcl with hq | hq | hq | hq | hq | hq | hq
  · have q0 : ¬ ((48 : Int) ≤ (c.toNat : Int)) := by omega
    have q1 : (c.toNat : Int) ≤ 57 := by omega
    have q2 : ¬ ((97 : Int) ≤ (c.toNat : Int)) := by omega
    have q3 : (c.toNat : Int) ≤ 122 := by omega
    have q4 : ¬ ((65 : Int) ≤ (c.toNat : Int)) := by omega
    have q5 : (c.toNat : Int) ≤ 90 := by omega
    have HR := Lib.hid (HN.out (decide_eq_false (by omega)))
    clear HY HN hq
    generalize Lib.indexByte othL c = x at *
    go_enter Tryz.func49, Tryz.ntmps49
    go_wp2_with fail
    refine (hI _).mono ?_
    rintro e w1 ⟨rfl, hw⟩
    subst hw
    go_wp2
    go_ret
    exact ⟨by rw [← HR.out]; rfl, rfl⟩
  · have q0 : (48 : Int) ≤ (c.toNat : Int) := by omega
    have q1 : (c.toNat : Int) ≤ 57 := by omega
    have q2 : ¬ ((97 : Int) ≤ (c.toNat : Int)) := by omega
    have q3 : (c.toNat : Int) ≤ 122 := by omega
    have q4 : ¬ ((65 : Int) ≤ (c.toNat : Int)) := by omega
    have q5 : (c.toNat : Int) ≤ 90 := by omega
    have HR : Hid (R = true) := Lib.hid (HY.out (decide_eq_true (by omega)))
    clear HY HN hI hq
    go_enter Tryz.func49, Tryz.ntmps49
    go_wp2
    go_ret
    exact ⟨by rw [HR.out]; rfl, rfl⟩
  · have q0 : (48 : Int) ≤ (c.toNat : Int) := by omega
    have q1 : ¬ ((c.toNat : Int) ≤ 57) := by omega
    have q2 : ¬ ((97 : Int) ≤ (c.toNat : Int)) := by omega
    have q3 : (c.toNat : Int) ≤ 122 := by omega
    have q4 : ¬ ((65 : Int) ≤ (c.toNat : Int)) := by omega
    have q5 : (c.toNat : Int) ≤ 90 := by omega
    have HR := Lib.hid (HN.out (decide_eq_false (by omega)))
    clear HY HN hq
    generalize Lib.indexByte othL c = x at *
    go_enter Tryz.func49, Tryz.ntmps49
    go_wp2_with fail
    refine (hI _).mono ?_
    rintro e w1 ⟨rfl, hw⟩
    subst hw
    go_wp2
    go_ret
    exact ⟨by rw [← HR.out]; rfl, rfl⟩
  · have q0 : (48 : Int) ≤ (c.toNat : Int) := by omega
    have q1 : ¬ ((c.toNat : Int) ≤ 57) := by omega
    have q2 : ¬ ((97 : Int) ≤ (c.toNat : Int)) := by omega
    have q3 : (c.toNat : Int) ≤ 122 := by omega
    have q4 : (65 : Int) ≤ (c.toNat : Int) := by omega
    have q5 : (c.toNat : Int) ≤ 90 := by omega
    have HR : Hid (R = true) := Lib.hid (HY.out (decide_eq_true (by omega)))
    clear HY HN hI hq
    go_enter Tryz.func49, Tryz.ntmps49
    go_wp2
    go_ret
    exact ⟨by rw [HR.out]; rfl, rfl⟩
  · have q0 : (48 : Int) ≤ (c.toNat : Int) := by omega
    have q1 : ¬ ((c.toNat : Int) ≤ 57) := by omega
    have q2 : ¬ ((97 : Int) ≤ (c.toNat : Int)) := by omega
    have q3 : (c.toNat : Int) ≤ 122 := by omega
    have q4 : (65 : Int) ≤ (c.toNat : Int) := by omega
    have q5 : ¬ ((c.toNat : Int) ≤ 90) := by omega
    have HR := Lib.hid (HN.out (decide_eq_false (by omega)))
    clear HY HN hq
    generalize Lib.indexByte othL c = x at *
    go_enter Tryz.func49, Tryz.ntmps49
    go_wp2_with fail
    refine (hI _).mono ?_
    rintro e w1 ⟨rfl, hw⟩
    subst hw
    go_wp2
    go_ret
    exact ⟨by rw [← HR.out]; rfl, rfl⟩
  · have q0 : (48 : Int) ≤ (c.toNat : Int) := by omega
    have q1 : ¬ ((c.toNat : Int) ≤ 57) := by omega
    have q2 : (97 : Int) ≤ (c.toNat : Int) := by omega
    have q3 : (c.toNat : Int) ≤ 122 := by omega
    have q4 : (65 : Int) ≤ (c.toNat : Int) := by omega
    have q5 : ¬ ((c.toNat : Int) ≤ 90) := by omega
    have HR : Hid (R = true) := Lib.hid (HY.out (decide_eq_true (by omega)))
    clear HY HN hI hq
    go_enter Tryz.func49, Tryz.ntmps49
    go_wp2
    go_ret
    exact ⟨by rw [HR.out]; rfl, rfl⟩
  · have q0 : (48 : Int) ≤ (c.toNat : Int) := by omega
    have q1 : ¬ ((c.toNat : Int) ≤ 57) := by omega
    have q2 : (97 : Int) ≤ (c.toNat : Int) := by omega
    have q3 : ¬ ((c.toNat : Int) ≤ 122) := by omega
    have q4 : (65 : Int) ≤ (c.toNat : Int) := by omega
    have q5 : ¬ ((c.toNat : Int) ≤ 90) := by omega
    have HR := Lib.hid (HN.out (decide_eq_false (by omega)))
    clear HY HN hq
    generalize Lib.indexByte othL c = x at *
    go_enter Tryz.func49, Tryz.ntmps49
    go_wp2_with fail
    refine (hI _).mono ?_
    rintro e w1 ⟨rfl, hw⟩
    subst hw
    go_wp2
    go_ret
    exact ⟨by rw [← HR.out]; rfl, rfl⟩
set_option maxHeartbeats 2000000 in
theorem byteR_any (c : UInt8) (w : World) : Calls Tryz.prog 40 #[.int .u8 c.toNat] w fun e w' => e = .returned (.bool (Ac.tokB c)) ∧ w = w' := by
  have hc255 : (c.toNat : Int) ≤ 255 := by have := c.toNat_lt; omega
  have HY := Lib.hid (tok_aln (c := c))
  have HN := Lib.hid (tok_noaln14 (c := c))
  generalize hTB : Ac.tokB c = R at *
  have HTB := Lib.hid hTB
  clear hTB
  have hcl : (0 ≤ (c.toNat : Int) ∧ (c.toNat : Int) ≤ 47) ∨ (48 ≤ (c.toNat : Int) ∧ (c.toNat : Int) ≤ 57) ∨ (58 ≤ (c.toNat : Int) ∧ (c.toNat : Int) ≤ 64) ∨ (65 ≤ (c.toNat : Int) ∧ (c.toNat : Int) ≤ 90) ∨ (91 ≤ (c.toNat : Int) ∧ (c.toNat : Int) ≤ 96) ∨ (97 ≤ (c.toNat : Int) ∧ (c.toNat : Int) ≤ 122) ∨ (123 ≤ (c.toNat : Int) ∧ (c.toNat : Int) ≤ 255) := by omega
  rcases hcl with hq | hq | hq | hq | hq | hq | hq
  · have q0 : ¬ ((48 : Int) ≤ (c.toNat : Int)) := by omega
    have q1 : (c.toNat : Int) ≤ 57 := by omega
    have q2 : ¬ ((97 : Int) ≤ (c.toNat : Int)) := by omega
    have q3 : (c.toNat : Int) ≤ 122 := by omega
    have q4 : ¬ ((65 : Int) ≤ (c.toNat : Int)) := by omega
    have q5 : (c.toNat : Int) ≤ 90 := by omega
    have HR := Lib.hid (HN.out (decide_eq_false (by omega)))
    have HLEN : Hid (oth14.length = 14) := Lib.hid rfl
    have HHIT : Hid (∀ (k : Nat) (h : k < oth14.length), (oth14[k].toNat : Int) = (c.toNat : Int) → R = true) := Lib.hid fun k h e => by
      rw [HR.out, show oth14.contains c = true from List.contains_iff_mem.2 (by rw [← UInt8.toNat_inj.1 (show oth14[k].toNat = c.toNat by omega)]; exact List.getElem_mem h)]; rfl
    have HMISS : Hid ((∀ (k : Nat) (h : k < oth14.length), (oth14[k].toNat : Int) ≠ (c.toNat : Int)) → R = ((c.toNat : Int) == 96)) := Lib.hid fun h => by
      have hn : oth14.contains c = false := by
        rw [Bool.eq_false_iff]
        intro hc
        obtain ⟨k, hk, e⟩ := List.mem_iff_getElem.1 (List.contains_iff_mem.1 hc)
        exact h k hk (by rw [e])
      rw [HR.out, hn, Bool.false_or, Bool.eq_iff_iff, beq_iff_eq, beq_iff_eq]; omega
    clear HY HN hq HTB HR
    have HO : Hid ((⟨#[33, 35, 36, 37, 38, 39, 42, 43, 45, 46, 94, 95, 124, 126]⟩ : ByteArray) = bs oth14) := Lib.hid rfl
    generalize hoo : oth14 = O at *
    clear hoo
    have hl14 := HLEN.out
    go_enter Tryz.func40, Tryz.ntmps40
    go_upto_region 4 with fail
    rw [HO.out]
    go_wp2
    go_loop [4] (fun t => ∃ k : Nat, k ≤ O.length ∧ t = .int .i64 (k : Int) ∧ Hid (∀ (j : Nat) (h : j < O.length), j < k → (O[j].toNat : Int) ≠ (c.toNat : Int))) (fun t => O.length - (intOf t).toNat)
    case atStart => exact ⟨0, by omega, rfl, Lib.hid fun j h hj => by omega⟩
    case round =>
      obtain ⟨k, hk, rfl, HA⟩ := hrel
      by_cases hlt : k < O.length
      · by_cases he : (O[k].toNat : Int) = (c.toNat : Int)
        · have HR := Lib.hid (HHIT.out k hlt he)
          have he2 : ((O[k].toNat : Int) == (c.toNat : Int)) = true := by rw [beq_iff_eq]; exact he
          clear HHIT HMISS HA he
          go_wp2
          go_ret
          exact ⟨by rw [HR.out]; rfl, rfl⟩
        · have he2 : ((O[k].toNat : Int) == (c.toNat : Int)) = false := by rw [beq_eq_false_iff_ne]; exact he
          have HA2 : Hid (∀ (j : Nat) (h : j < O.length), j < k + 1 → (O[j].toNat : Int) ≠ (c.toNat : Int)) := Lib.hid fun j h hj => by
            by_cases hjk : j = k
            · subst hjk; exact he
            · exact HA.out j h (by omega)
          clear HHIT HMISS HA he
          go_wp2
          go_round
          case rel => exact ⟨k + 1, by omega, by go_num, HA2⟩
          case measure => simp [intOf]; omega
      · obtain rfl : k = O.length := by omega
        have HR := Lib.hid (HMISS.out fun j h => HA.out j h h)
        clear HHIT HMISS HA
        go_wp2
        go_ret
        exact ⟨by rw [HR.out]; rfl, rfl⟩
  · have q0 : (48 : Int) ≤ (c.toNat : Int) := by omega
    have q1 : (c.toNat : Int) ≤ 57 := by omega
    have q2 : ¬ ((97 : Int) ≤ (c.toNat : Int)) := by omega
    have q3 : (c.toNat : Int) ≤ 122 := by omega
    have q4 : ¬ ((65 : Int) ≤ (c.toNat : Int)) := by omega
    have q5 : (c.toNat : Int) ≤ 90 := by omega
    have HR : Hid (R = true) := Lib.hid (HY.out (decide_eq_true (by omega)))
    clear HY HN hq HTB
    go_enter Tryz.func40, Tryz.ntmps40
    go_wp2
    go_ret
    exact ⟨by rw [HR.out]; rfl, rfl⟩
  · have q0 : (48 : Int) ≤ (c.toNat : Int) := by omega
    have q1 : ¬ ((c.toNat : Int) ≤ 57) := by omega
    have q2 : ¬ ((97 : Int) ≤ (c.toNat : Int)) := by omega
    have q3 : (c.toNat : Int) ≤ 122 := by omega
    have q4 : ¬ ((65 : Int) ≤ (c.toNat : Int)) := by omega
    have q5 : (c.toNat : Int) ≤ 90 := by omega
    have HR := Lib.hid (HN.out (decide_eq_false (by omega)))
    have HLEN : Hid (oth14.length = 14) := Lib.hid rfl
    have HHIT : Hid (∀ (k : Nat) (h : k < oth14.length), (oth14[k].toNat : Int) = (c.toNat : Int) → R = true) := Lib.hid fun k h e => by
      rw [HR.out, show oth14.contains c = true from List.contains_iff_mem.2 (by rw [← UInt8.toNat_inj.1 (show oth14[k].toNat = c.toNat by omega)]; exact List.getElem_mem h)]; rfl
    have HMISS : Hid ((∀ (k : Nat) (h : k < oth14.length), (oth14[k].toNat : Int) ≠ (c.toNat : Int)) → R = ((c.toNat : Int) == 96)) := Lib.hid fun h => by
      have hn : oth14.contains c = false := by
        rw [Bool.eq_false_iff]
        intro hc
        obtain ⟨k, hk, e⟩ := List.mem_iff_getElem.1 (List.contains_iff_mem.1 hc)
        exact h k hk (by rw [e])
      rw [HR.out, hn, Bool.false_or, Bool.eq_iff_iff, beq_iff_eq, beq_iff_eq]; omega
    clear HY HN hq HTB HR
    have HO : Hid ((⟨#[33, 35, 36, 37, 38, 39, 42, 43, 45, 46, 94, 95, 124, 126]⟩ : ByteArray) = bs oth14) := Lib.hid rfl
    generalize hoo : oth14 = O at *
    clear hoo
    have hl14 := HLEN.out
    go_enter Tryz.func40, Tryz.ntmps40
    go_upto_region 4 with fail
    rw [HO.out]
    go_wp2
    go_loop [4] (fun t => ∃ k : Nat, k ≤ O.length ∧ t = .int .i64 (k : Int) ∧ Hid (∀ (j : Nat) (h : j < O.length), j < k → (O[j].toNat : Int) ≠ (c.toNat : Int))) (fun t => O.length - (intOf t).toNat)
    case atStart => exact ⟨0, by omega, rfl, Lib.hid fun j h hj => by omega⟩
    case round =>
      obtain ⟨k, hk, rfl, HA⟩ := hrel
      by_cases hlt : k < O.length
      · by_cases he : (O[k].toNat : Int) = (c.toNat : Int)
        · have HR := Lib.hid (HHIT.out k hlt he)
          have he2 : ((O[k].toNat : Int) == (c.toNat : Int)) = true := by rw [beq_iff_eq]; exact he
          clear HHIT HMISS HA he
          go_wp2
          go_ret
          exact ⟨by rw [HR.out]; rfl, rfl⟩
        · have he2 : ((O[k].toNat : Int) == (c.toNat : Int)) = false := by rw [beq_eq_false_iff_ne]; exact he
          have HA2 : Hid (∀ (j : Nat) (h : j < O.length), j < k + 1 → (O[j].toNat : Int) ≠ (c.toNat : Int)) := Lib.hid fun j h hj => by
            by_cases hjk : j = k
            · subst hjk; exact he
            · exact HA.out j h (by omega)
          clear HHIT HMISS HA he
          go_wp2
          go_round
          case rel => exact ⟨k + 1, by omega, by go_num, HA2⟩
          case measure => simp [intOf]; omega
      · obtain rfl : k = O.length := by omega
        have HR := Lib.hid (HMISS.out fun j h => HA.out j h h)
        clear HHIT HMISS HA
        go_wp2
        go_ret
        exact ⟨by rw [HR.out]; rfl, rfl⟩
  · have q0 : (48 : Int) ≤ (c.toNat : Int) := by omega
    have q1 : ¬ ((c.toNat : Int) ≤ 57) := by omega
    have q2 : ¬ ((97 : Int) ≤ (c.toNat : Int)) := by omega
    have q3 : (c.toNat : Int) ≤ 122 := by omega
    have q4 : (65 : Int) ≤ (c.toNat : Int) := by omega
    have q5 : (c.toNat : Int) ≤ 90 := by omega
    have HR : Hid (R = true) := Lib.hid (HY.out (decide_eq_true (by omega)))
    clear HY HN hq HTB
    go_enter Tryz.func40, Tryz.ntmps40
    go_wp2
    go_ret
    exact ⟨by rw [HR.out]; rfl, rfl⟩
  · have q0 : (48 : Int) ≤ (c.toNat : Int) := by omega
    have q1 : ¬ ((c.toNat : Int) ≤ 57) := by omega
    have q2 : ¬ ((97 : Int) ≤ (c.toNat : Int)) := by omega
    have q3 : (c.toNat : Int) ≤ 122 := by omega
    have q4 : (65 : Int) ≤ (c.toNat : Int) := by omega
    have q5 : ¬ ((c.toNat : Int) ≤ 90) := by omega
    have HR := Lib.hid (HN.out (decide_eq_false (by omega)))
    have HLEN : Hid (oth14.length = 14) := Lib.hid rfl
    have HHIT : Hid (∀ (k : Nat) (h : k < oth14.length), (oth14[k].toNat : Int) = (c.toNat : Int) → R = true) := Lib.hid fun k h e => by
      rw [HR.out, show oth14.contains c = true from List.contains_iff_mem.2 (by rw [← UInt8.toNat_inj.1 (show oth14[k].toNat = c.toNat by omega)]; exact List.getElem_mem h)]; rfl
    have HMISS : Hid ((∀ (k : Nat) (h : k < oth14.length), (oth14[k].toNat : Int) ≠ (c.toNat : Int)) → R = ((c.toNat : Int) == 96)) := Lib.hid fun h => by
      have hn : oth14.contains c = false := by
        rw [Bool.eq_false_iff]
        intro hc
        obtain ⟨k, hk, e⟩ := List.mem_iff_getElem.1 (List.contains_iff_mem.1 hc)
        exact h k hk (by rw [e])
      rw [HR.out, hn, Bool.false_or, Bool.eq_iff_iff, beq_iff_eq, beq_iff_eq]; omega
    clear HY HN hq HTB HR
    have HO : Hid ((⟨#[33, 35, 36, 37, 38, 39, 42, 43, 45, 46, 94, 95, 124, 126]⟩ : ByteArray) = bs oth14) := Lib.hid rfl
    generalize hoo : oth14 = O at *
    clear hoo
    have hl14 := HLEN.out
    go_enter Tryz.func40, Tryz.ntmps40
    go_upto_region 4 with fail
    rw [HO.out]
    go_wp2
    go_loop [4] (fun t => ∃ k : Nat, k ≤ O.length ∧ t = .int .i64 (k : Int) ∧ Hid (∀ (j : Nat) (h : j < O.length), j < k → (O[j].toNat : Int) ≠ (c.toNat : Int))) (fun t => O.length - (intOf t).toNat)
    case atStart => exact ⟨0, by omega, rfl, Lib.hid fun j h hj => by omega⟩
    case round =>
      obtain ⟨k, hk, rfl, HA⟩ := hrel
      by_cases hlt : k < O.length
      · by_cases he : (O[k].toNat : Int) = (c.toNat : Int)
        · have HR := Lib.hid (HHIT.out k hlt he)
          have he2 : ((O[k].toNat : Int) == (c.toNat : Int)) = true := by rw [beq_iff_eq]; exact he
          clear HHIT HMISS HA he
          go_wp2
          go_ret
          exact ⟨by rw [HR.out]; rfl, rfl⟩
        · have he2 : ((O[k].toNat : Int) == (c.toNat : Int)) = false := by rw [beq_eq_false_iff_ne]; exact he
          have HA2 : Hid (∀ (j : Nat) (h : j < O.length), j < k + 1 → (O[j].toNat : Int) ≠ (c.toNat : Int)) := Lib.hid fun j h hj => by
            by_cases hjk : j = k
            · subst hjk; exact he
            · exact HA.out j h (by omega)
          clear HHIT HMISS HA he
          go_wp2
          go_round
          case rel => exact ⟨k + 1, by omega, by go_num, HA2⟩
          case measure => simp [intOf]; omega
      · obtain rfl : k = O.length := by omega
        have HR := Lib.hid (HMISS.out fun j h => HA.out j h h)
        clear HHIT HMISS HA
        go_wp2
        go_ret
        exact ⟨by rw [HR.out]; rfl, rfl⟩
  · have q0 : (48 : Int) ≤ (c.toNat : Int) := by omega
    have q1 : ¬ ((c.toNat : Int) ≤ 57) := by omega
    have q2 : (97 : Int) ≤ (c.toNat : Int) := by omega
    have q3 : (c.toNat : Int) ≤ 122 := by omega
    have q4 : (65 : Int) ≤ (c.toNat : Int) := by omega
    have q5 : ¬ ((c.toNat : Int) ≤ 90) := by omega
    have HR : Hid (R = true) := Lib.hid (HY.out (decide_eq_true (by omega)))
    clear HY HN hq HTB
    go_enter Tryz.func40, Tryz.ntmps40
    go_wp2
    go_ret
    exact ⟨by rw [HR.out]; rfl, rfl⟩
  · have q0 : (48 : Int) ≤ (c.toNat : Int) := by omega
    have q1 : ¬ ((c.toNat : Int) ≤ 57) := by omega
    have q2 : (97 : Int) ≤ (c.toNat : Int) := by omega
    have q3 : ¬ ((c.toNat : Int) ≤ 122) := by omega
    have q4 : (65 : Int) ≤ (c.toNat : Int) := by omega
    have q5 : ¬ ((c.toNat : Int) ≤ 90) := by omega
    have HR := Lib.hid (HN.out (decide_eq_false (by omega)))
    have HLEN : Hid (oth14.length = 14) := Lib.hid rfl
    have HHIT : Hid (∀ (k : Nat) (h : k < oth14.length), (oth14[k].toNat : Int) = (c.toNat : Int) → R = true) := Lib.hid fun k h e => by
      rw [HR.out, show oth14.contains c = true from List.contains_iff_mem.2 (by rw [← UInt8.toNat_inj.1 (show oth14[k].toNat = c.toNat by omega)]; exact List.getElem_mem h)]; rfl
    have HMISS : Hid ((∀ (k : Nat) (h : k < oth14.length), (oth14[k].toNat : Int) ≠ (c.toNat : Int)) → R = ((c.toNat : Int) == 96)) := Lib.hid fun h => by
      have hn : oth14.contains c = false := by
        rw [Bool.eq_false_iff]
        intro hc
        obtain ⟨k, hk, e⟩ := List.mem_iff_getElem.1 (List.contains_iff_mem.1 hc)
        exact h k hk (by rw [e])
      rw [HR.out, hn, Bool.false_or, Bool.eq_iff_iff, beq_iff_eq, beq_iff_eq]; omega
    clear HY HN hq HTB HR
    have HO : Hid ((⟨#[33, 35, 36, 37, 38, 39, 42, 43, 45, 46, 94, 95, 124, 126]⟩ : ByteArray) = bs oth14) := Lib.hid rfl
    generalize hoo : oth14 = O at *
    clear hoo
    have hl14 := HLEN.out
    go_enter Tryz.func40, Tryz.ntmps40
    go_upto_region 4 with fail
    rw [HO.out]
    go_wp2
    go_loop [4] (fun t => ∃ k : Nat, k ≤ O.length ∧ t = .int .i64 (k : Int) ∧ Hid (∀ (j : Nat) (h : j < O.length), j < k → (O[j].toNat : Int) ≠ (c.toNat : Int))) (fun t => O.length - (intOf t).toNat)
    case atStart => exact ⟨0, by omega, rfl, Lib.hid fun j h hj => by omega⟩
    case round =>
      obtain ⟨k, hk, rfl, HA⟩ := hrel
      by_cases hlt : k < O.length
      · by_cases he : (O[k].toNat : Int) = (c.toNat : Int)
        · have HR := Lib.hid (HHIT.out k hlt he)
          have he2 : ((O[k].toNat : Int) == (c.toNat : Int)) = true := by rw [beq_iff_eq]; exact he
          clear HHIT HMISS HA he
          go_wp2
          go_ret
          exact ⟨by rw [HR.out]; rfl, rfl⟩
        · have he2 : ((O[k].toNat : Int) == (c.toNat : Int)) = false := by rw [beq_eq_false_iff_ne]; exact he
          have HA2 : Hid (∀ (j : Nat) (h : j < O.length), j < k + 1 → (O[j].toNat : Int) ≠ (c.toNat : Int)) := Lib.hid fun j h hj => by
            by_cases hjk : j = k
            · subst hjk; exact he
            · exact HA.out j h (by omega)
          clear HHIT HMISS HA he
          go_wp2
          go_round
          case rel => exact ⟨k + 1, by omega, by go_num, HA2⟩
          case measure => simp [intOf]; omega
      · obtain rfl : k = O.length := by omega
        have HR := Lib.hid (HMISS.out fun j h => HA.out j h h)
        clear HHIT HMISS HA
        go_wp2
        go_ret
        exact ⟨by rw [HR.out]; rfl, rfl⟩
set_option maxHeartbeats 1000000 in
theorem token_any (s : List UInt8) (w : World) (hs : s.length ≤ 1073741824) : Calls Tryz.prog 37 #[.string (bs s)] w fun e w' => e = .returned (.bool (Ac.tok s)) ∧ w = w' := by
  have HB : Hid (Ac.tok s = (!s.isEmpty && s.all Ac.tokB)) := Lib.hid rfl
  have HE : Hid (s.isEmpty = decide (s.length = 0)) := Lib.hid (by cases s <;> simp)
  have HF : Hid (∀ (k : Nat) (h : k < s.length), Ac.tokB s[k] = false → Ac.tok s = false) := Lib.hid fun k h hb => by rw [HB.out, all_stop Ac.tokB s k h hb, Bool.and_false]
  generalize Ac.tok s = R at *
  go_enter Tryz.func37, Tryz.ntmps37
  go_wp2
  go_loop [6] (fun t => ∃ k : Nat, k ≤ s.length ∧ t = .int .i64 (k : Int) ∧ Hid ((s.take k).all Ac.tokB = true)) (fun t => s.length - (intOf t).toNat)
  case atStart => exact ⟨0, by omega, rfl, Lib.hid rfl⟩
  case round =>
    obtain ⟨k, hk, rfl, HA⟩ := hrel
    by_cases hlt : k < s.length
    · have hC := fun W => tokenByte_any s[k] W
      cases hb : Ac.tokB s[k] with
      | false =>
        have HR := Lib.hid (HF.out k hlt hb)
        rw [hb] at hC
        clear HF HB HE HA hb
        go_wp2_with fail
        refine (hC _).mono ?_
        rintro e w1 ⟨rfl, hw⟩
        subst hw
        go_wp2
        go_ret
        exact ⟨by rw [HR.out]; rfl, rfl⟩
      | true =>
        have HA2 : Hid ((s.take (k + 1)).all Ac.tokB = true) := Lib.hid (by rw [all_snoc Ac.tokB s k hlt, HA.out, hb]; rfl)
        rw [hb] at hC
        clear HF HB HE HA hb
        go_wp2_with fail
        refine (hC _).mono ?_
        rintro e w1 ⟨rfl, hw⟩
        subst hw
        go_wp2
        go_round
        case rel => exact ⟨k + 1, by omega, by go_num, HA2⟩
        case measure => simp [intOf]; omega
    · obtain rfl : k = s.length := by omega
      have HAF := Lib.hid (all_full Ac.tokB s HA.out)
      by_cases h0 : s.length = 0
      · have HR : Hid (R = false) := Lib.hid (by rw [HB.out, HE.out, decide_eq_true h0]; rfl)
        have hs0 : s = [] := List.eq_nil_of_length_eq_zero h0
        subst hs0
        clear HF HB HE HA HAF
        go_wp2
        go_ret
        exact ⟨by rw [HR.out]; rfl, rfl⟩
      · have HR : Hid (R = true) := Lib.hid (by rw [HB.out, HE.out, HAF.out, decide_eq_false h0]; rfl)
        have he : s.isEmpty = false := by rw [HE.out]; exact decide_eq_false h0
        have hpos : (0 : Int) < (s.length : Int) := by omega
        have HD9 : Hid (decide (0 < s.length) = true) := Lib.hid (decide_eq_true (by omega))
        clear HF HB HE HA HAF
        go_wp2
        go_ret
        exact ⟨by first | (rw [HR.out]; rfl) | (rw [HR.out, ← HD9.out]; rfl), rfl⟩
set_option maxHeartbeats 1000000 in
theorem tokenR_any (s : List UInt8) (w : World) (hs : s.length ≤ 1073741824) : Calls Tryz.prog 30 #[.string (bs s)] w fun e w' => e = .returned (.bool (Ac.tok s)) ∧ w = w' := by
  have HB : Hid (Ac.tok s = (!s.isEmpty && s.all Ac.tokB)) := Lib.hid rfl
  have HE : Hid (s.isEmpty = decide (s.length = 0)) := Lib.hid (by cases s <;> simp)
  have HF : Hid (∀ (k : Nat) (h : k < s.length), Ac.tokB s[k] = false → Ac.tok s = false) := Lib.hid fun k h hb => by rw [HB.out, all_stop Ac.tokB s k h hb, Bool.and_false]
  generalize Ac.tok s = R at *
  go_enter Tryz.func30, Tryz.ntmps30
  go_wp2
  go_loop [3] (fun t => ∃ k : Nat, k ≤ s.length ∧ t = .int .i64 (k : Int) ∧ Hid ((s.take k).all Ac.tokB = true)) (fun t => s.length - (intOf t).toNat)
  case atStart => exact ⟨0, by omega, rfl, Lib.hid rfl⟩
  case round =>
    obtain ⟨k, hk, rfl, HA⟩ := hrel
    by_cases hlt : k < s.length
    · have hC := fun W => byteR_any s[k] W
      cases hb : Ac.tokB s[k] with
      | false =>
        have HR := Lib.hid (HF.out k hlt hb)
        rw [hb] at hC
        clear HF HB HE HA hb
        go_wp2_with fail
        refine (hC _).mono ?_
        rintro e w1 ⟨rfl, hw⟩
        subst hw
        go_wp2
        go_ret
        exact ⟨by rw [HR.out]; rfl, rfl⟩
      | true =>
        have HA2 : Hid ((s.take (k + 1)).all Ac.tokB = true) := Lib.hid (by rw [all_snoc Ac.tokB s k hlt, HA.out, hb]; rfl)
        rw [hb] at hC
        clear HF HB HE HA hb
        go_wp2_with fail
        refine (hC _).mono ?_
        rintro e w1 ⟨rfl, hw⟩
        subst hw
        go_wp2
        go_round
        case rel => exact ⟨k + 1, by omega, by go_num, HA2⟩
        case measure => simp [intOf]; omega
    · obtain rfl : k = s.length := by omega
      have HAF := Lib.hid (all_full Ac.tokB s HA.out)
      by_cases h0 : s.length = 0
      · have HR : Hid (R = false) := Lib.hid (by rw [HB.out, HE.out, decide_eq_true h0]; rfl)
        have hs0 : s = [] := List.eq_nil_of_length_eq_zero h0
        subst hs0
        clear HF HB HE HA HAF
        go_wp2
        go_ret
        exact ⟨by rw [HR.out]; rfl, rfl⟩
      · have HR : Hid (R = true) := Lib.hid (by rw [HB.out, HE.out, HAF.out, decide_eq_false h0]; rfl)
        have he : s.isEmpty = false := by rw [HE.out]; exact decide_eq_false h0
        have hpos : (0 : Int) < (s.length : Int) := by omega
        have HD9 : Hid (decide (0 < s.length) = true) := Lib.hid (decide_eq_true (by omega))
        clear HF HB HE HA HAF
        go_wp2
        go_ret
        exact ⟨by first | (rw [HR.out]; rfl) | (rw [HR.out, ← HD9.out]; rfl), rfl⟩
end Go.Proofs.YtgkphjbcaidcpaaGreatDoor
set_option linter.unusedVariables false
set_option linter.unusedSimpArgs false
namespace Go.Proofs.YtgkphjbcaidcpaaGreatDoor
open Go.RowKit

set_option maxRecDepth 100000
theorem cutG_any (s p : List UInt8) (w : World) (hM : MaxL w) (hs : s.length ≤ 1073741824) :
    Calls Tryz.prog 64 #[.string (bs s), .string (bs p)] w fun e w' => e = .returned (.tuple #[.string (bs (Lib.cut s p).1), .string (bs (Lib.cut s p).2.1), .bool (Lib.cut s p).2.2]) ∧ ∃ q, w' = w.drewN q := by
  obtain ⟨m, hm⟩ := hM
  refine (Tryz.strings_Cut (bs s) (bs p) m w (by simp; omega) hm).mono fun e w' h => ⟨?_, h.2⟩
  have h1 := h.1
  rw [bs_data, bs_data] at h1
  exact h1
theorem Ac.cut_le (s p : List UInt8) : (Lib.cut s p).2.1.length ≤ s.length := by
  unfold Lib.cut
  split
  · simp only [List.length_drop]; omega
  · simp
theorem Ac.cutI_le (st : Bool × List UInt8) (p : List UInt8) : (Ac.cutI st p).2.length ≤ st.2.length := by
  unfold Ac.cutI
  split
  · exact Ac.cut_le _ _
  · simp
theorem Ac.gr_le : ∀ (mid : List (List UInt8)) (st : Bool × List UInt8), (Ac.gr mid st).2.length ≤ st.2.length
  | [], st => Nat.le_refl _
  | p :: r, st => Nat.le_trans (Ac.gr_le r (Ac.cutI st p)) (Ac.cutI_le st p)
theorem Ac.gr_snoc {mid : List (List UInt8)} {k : Nat} {p : List UInt8} (h : mid[k]? = some p) (st : Bool × List UInt8) : Ac.gr (mid.take (k + 1)) st = Ac.cutI (Ac.gr (mid.take k) st) p := by
  unfold Ac.gr; rw [take_snoc? h, List.foldl_append]; rfl
theorem cutIf_any (ok : Bool) (s p : List UInt8) (w : World) (hM : MaxL w) (hs : s.length ≤ 1073741824) :
    Calls Tryz.prog 131 #[.bool ok, .string (bs s), .string (bs p)] w fun e w' => (∃ x, e = .returned (.tuple #[.string x, .string (bs (Ac.cutI (ok, s) p).2), .bool (Ac.cutI (ok, s) p).1])) ∧ Below w.heap.size w w' := by
  have hC := cutG_any s p w hM hs
  cases ok with
  | false =>
    have HR : Hid (Ac.cutI (false, s) p = (false, [])) := Lib.hid rfl
    generalize Ac.cutI (false, s) p = R at *
    rw [HR.out]
    clear hC HR
    go_enter Tryz.func131, Tryz.ntmps131
    go_wp2
    refine bodyPost_ret (v := .tuple #[.string ⟨#[]⟩, .string (bs []), .bool false]) (by simp [results, Tryz.results131, go_sem]; rfl) rfl ⟨⟨_, rfl⟩, Below.refl _ _⟩
  | true =>
    have HR : Hid (Ac.cutI (true, s) p = ((Lib.cut s p).2.2, (Lib.cut s p).2.1)) := Lib.hid rfl
    rw [HR.out]
    clear HR
    generalize Lib.cut s p = C at *
    obtain ⟨c1, c2, c3⟩ := C
    dsimp only at hC ⊢
    go_enter Tryz.func131, Tryz.ntmps131
    go_wp2_with fail
    refine hC.mono ?_
    rintro e w1 ⟨rfl, q, rfl⟩
    go_wp2
    refine bodyPost_ret (v := .tuple #[.string (bs c1), .string (bs c2), .bool c3]) (by simp [results, Tryz.results131, go_sem]) rfl ⟨⟨_, rfl⟩, below_drewN (Below.refl _ _) _⟩
end Go.Proofs.YtgkphjbcaidcpaaGreatDoor
