/- The reference's parts of an address: letters and digits, a host, a port, the colon, an authority. Conditions: the text's length at most 2^30. -/
import Derived.Test.YtdeaoagdjnnppaaGreatDoorUrA
import Derived.Test.YtdeaoagdjnnppaaGreatDoorLower
set_option linter.unusedVariables false
set_option linter.unusedSimpArgs false
namespace Go.Proofs.YtdeaoagdjnnppaaGreatDoor
open Go.RowKit

set_option maxRecDepth 100000
theorem alnum_nat (c : UInt8) : Ur.alnum c = ((decide (48 ≤ c.toNat) && decide (c.toNat ≤ 57)) || (decide (65 ≤ c.toNat) && decide (c.toNat ≤ 90)) || (decide (97 ≤ c.toNat) && decide (c.toNat ≤ 122))) := rfl
set_option maxHeartbeats 2000000 in
theorem ralnum_any (c : UInt8) (w : World) : Calls Tryz.prog 40 #[.int .u8 c.toNat] w fun e w' => e = .returned (.bool (Ur.alnum c)) ∧ w = w' := by
  have HV := Lib.hid (alnum_nat c)
  generalize Ur.alnum c = V at *
  have h255 := c.toNat_lt
  have hr : (c.toNat < 48) ∨ (48 ≤ c.toNat ∧ c.toNat ≤ 57) ∨ (58 ≤ c.toNat ∧ c.toNat ≤ 64) ∨ (65 ≤ c.toNat ∧ c.toNat ≤ 90) ∨ (91 ≤ c.toNat ∧ c.toNat ≤ 96) ∨ (97 ≤ c.toNat ∧ c.toNat ≤ 122) ∨ (123 ≤ c.toNat) := by omega
  rcases hr with h | h | h | h | h | h | h
  · have HW : Hid (V = false) := Lib.hid (by rw [HV.out]; simp; omega)
    have a0 : ¬ 48 ≤ c.toNat := by omega
    have a1 : c.toNat ≤ 57 := by omega
    have a2 : ¬ 97 ≤ c.toNat := by omega
    have a3 : c.toNat ≤ 122 := by omega
    have a4 : ¬ 65 ≤ c.toNat := by omega
    have a5 : c.toNat ≤ 90 := by omega
    clear HV h h255
    go_enter Tryz.func40, Tryz.ntmps40
    go_wp2
    all_goals
      go_ret
      exact ⟨ret_bool (by first | (rw [HW.out]; done) | (rw [HW.out]; simp; done) | (rw [HW.out]; simp; omega)), rfl⟩
  · have HW : Hid (V = true) := Lib.hid (by rw [HV.out]; simp; omega)
    have a0 : 48 ≤ c.toNat := by omega
    have a1 : c.toNat ≤ 57 := by omega
    have a2 : ¬ 97 ≤ c.toNat := by omega
    have a3 : c.toNat ≤ 122 := by omega
    have a4 : ¬ 65 ≤ c.toNat := by omega
    have a5 : c.toNat ≤ 90 := by omega
    clear HV h h255
    go_enter Tryz.func40, Tryz.ntmps40
    go_wp2
    all_goals
      go_ret
      exact ⟨ret_bool (by first | (rw [HW.out]; done) | (rw [HW.out]; simp; done) | (rw [HW.out]; simp; omega)), rfl⟩
  · have HW : Hid (V = false) := Lib.hid (by rw [HV.out]; simp; omega)
    have a0 : 48 ≤ c.toNat := by omega
    have a1 : ¬ c.toNat ≤ 57 := by omega
    have a2 : ¬ 97 ≤ c.toNat := by omega
    have a3 : c.toNat ≤ 122 := by omega
    have a4 : ¬ 65 ≤ c.toNat := by omega
    have a5 : c.toNat ≤ 90 := by omega
    clear HV h h255
    go_enter Tryz.func40, Tryz.ntmps40
    go_wp2
    all_goals
      go_ret
      exact ⟨ret_bool (by first | (rw [HW.out]; done) | (rw [HW.out]; simp; done) | (rw [HW.out]; simp; omega)), rfl⟩
  · have HW : Hid (V = true) := Lib.hid (by rw [HV.out]; simp; omega)
    have a0 : 48 ≤ c.toNat := by omega
    have a1 : ¬ c.toNat ≤ 57 := by omega
    have a2 : ¬ 97 ≤ c.toNat := by omega
    have a3 : c.toNat ≤ 122 := by omega
    have a4 : 65 ≤ c.toNat := by omega
    have a5 : c.toNat ≤ 90 := by omega
    clear HV h h255
    go_enter Tryz.func40, Tryz.ntmps40
    go_wp2
    all_goals
      go_ret
      exact ⟨ret_bool (by first | (rw [HW.out]; done) | (rw [HW.out]; simp; done) | (rw [HW.out]; simp; omega)), rfl⟩
  · have HW : Hid (V = false) := Lib.hid (by rw [HV.out]; simp; omega)
    have a0 : 48 ≤ c.toNat := by omega
    have a1 : ¬ c.toNat ≤ 57 := by omega
    have a2 : ¬ 97 ≤ c.toNat := by omega
    have a3 : c.toNat ≤ 122 := by omega
    have a4 : 65 ≤ c.toNat := by omega
    have a5 : ¬ c.toNat ≤ 90 := by omega
    clear HV h h255
    go_enter Tryz.func40, Tryz.ntmps40
    go_wp2
    all_goals
      go_ret
      exact ⟨ret_bool (by first | (rw [HW.out]; done) | (rw [HW.out]; simp; done) | (rw [HW.out]; simp; omega)), rfl⟩
  · have HW : Hid (V = true) := Lib.hid (by rw [HV.out]; simp; omega)
    have a0 : 48 ≤ c.toNat := by omega
    have a1 : ¬ c.toNat ≤ 57 := by omega
    have a2 : 97 ≤ c.toNat := by omega
    have a3 : c.toNat ≤ 122 := by omega
    have a4 : 65 ≤ c.toNat := by omega
    have a5 : ¬ c.toNat ≤ 90 := by omega
    clear HV h h255
    go_enter Tryz.func40, Tryz.ntmps40
    go_wp2
    all_goals
      go_ret
      exact ⟨ret_bool (by first | (rw [HW.out]; done) | (rw [HW.out]; simp; done) | (rw [HW.out]; simp; omega)), rfl⟩
  · have HW : Hid (V = false) := Lib.hid (by rw [HV.out]; simp; omega)
    have a0 : 48 ≤ c.toNat := by omega
    have a1 : ¬ c.toNat ≤ 57 := by omega
    have a2 : 97 ≤ c.toNat := by omega
    have a3 : ¬ c.toNat ≤ 122 := by omega
    have a4 : 65 ≤ c.toNat := by omega
    have a5 : ¬ c.toNat ≤ 90 := by omega
    clear HV h h255
    go_enter Tryz.func40, Tryz.ntmps40
    go_wp2
    all_goals
      go_ret
      exact ⟨ret_bool (by first | (rw [HW.out]; done) | (rw [HW.out]; simp; done) | (rw [HW.out]; simp; omega)), rfl⟩
set_option maxHeartbeats 1000000 in
theorem rhost_any (s : List UInt8) (w : World) (hs : s.length ≤ 1073741824) :
    Calls Tryz.prog 20 #[.string (bs s)] w fun e w' => e = .returned (.bool (Ur.hostB s)) ∧ w = w' := by
  have HB : Hid (Ur.hostB s = (s.all Ur.hostC && (decide (1 ≤ s.length) && decide (s.length ≤ 255)))) := Lib.hid rfl
  generalize Ur.hostB s = R at *
  go_enter Tryz.func20, Tryz.ntmps20
  go_wp2
  go_loopg [3] s.length (fun r i wr => ∃ k : Nat, k ≤ s.length ∧ r + k = s.length ∧ i = .int .i64 k ∧ Hid ((s.take k).all Ur.hostC = true) ∧ wr = w)
  case atStart => exact ⟨0, by omega, by omega, rfl, Lib.hid (by simp), rfl⟩
  case round =>
    obtain ⟨k, hk, hr, rfl, HA, rfl⟩ := hrel
    by_cases hlt : k < s.length
    · have HS := Lib.hid (all_snoc Ur.hostC s k hlt)
      have HF : Hid (Ur.hostC s[k] = false → R = false) := Lib.hid (fun q => by rw [HB.out, all_stop Ur.hostC s k hlt q]; rfl)
      have HU : Hid (Ur.hostC s[k] = (Ur.alnum s[k] || s[k] == 45 || s[k] == 46)) := Lib.hid rfl
      have hC := ralnum_any s[k] wr
      cases hu : Ur.alnum s[k] with
      | true =>
        have HAN : Hid ((s.take (k + 1)).all Ur.hostC = true) := Lib.hid (by rw [HS.out, HA.out, HU.out, hu]; rfl)
        rw [hu] at hC
        clear HU HF HS hu
        go_wp2_with fail
        refine hC.mono ?_
        rintro e w1 ⟨rfl, rfl⟩
        clear hC
        go_wp2
        go_roundg (s.length - (k + 1))
        case measure => omega
        case rel => exact ⟨k + 1, by omega, by omega, by go_num, HAN, rfl⟩
      | false =>
        rw [hu] at hC
        by_cases h45 : s[k] = 45
        · have e45 := u8eqk h45 45 rfl
          have n45 : ((s[k].toNat : Int) != 45) = false := by rw [bne, e45]; rfl
          have HAN : Hid ((s.take (k + 1)).all Ur.hostC = true) := Lib.hid (by rw [HS.out, HA.out, HU.out, hu, h45]; rfl)
          clear HU HF HS hu h45
          go_wp2_with fail
          refine hC.mono ?_
          rintro e w1 ⟨rfl, rfl⟩
          clear hC
          go_wp2
          go_roundg (s.length - (k + 1))
          case measure => omega
          case rel => exact ⟨k + 1, by omega, by omega, by go_num, HAN, rfl⟩
        · have e45 := u8nek h45 45 rfl
          have n45 : ((s[k].toNat : Int) != 45) = true := by rw [bne, e45]; rfl
          by_cases h46 : s[k] = 46
          · have e46 := u8eqk h46 46 rfl
            have n46 : ((s[k].toNat : Int) != 46) = false := by rw [bne, e46]; rfl
            have HAN : Hid ((s.take (k + 1)).all Ur.hostC = true) := Lib.hid (by rw [HS.out, HA.out, HU.out, hu, h46]; rfl)
            clear HU HF HS hu h46 h45
            go_wp2_with fail
            refine hC.mono ?_
            rintro e w1 ⟨rfl, rfl⟩
            clear hC
            go_wp2
            go_roundg (s.length - (k + 1))
            case measure => omega
            case rel => exact ⟨k + 1, by omega, by omega, by go_num, HAN, rfl⟩
          · have e46 := u8nek h46 46 rfl
            have n46 : ((s[k].toNat : Int) != 46) = true := by rw [bne, e46]; rfl
            have HR : Hid (R = false) := Lib.hid (HF.out (by rw [HU.out, hu]; simp [h45, h46]))
            clear HU HF HS hu h46 h45 HB
            go_wp2_with fail
            refine hC.mono ?_
            rintro e w1 ⟨rfl, rfl⟩
            clear hC
            go_wp2
            go_ret
            exact ⟨ret_bool HR.out.symm, rfl⟩
    · obtain rfl : k = s.length := by omega
      have hall := all_full Ur.hostC s HA.out
      have HR : Hid (R = (decide (1 ≤ s.length) && decide (s.length ≤ 255))) := Lib.hid (by rw [HB.out, hall]; rfl)
      clear HB HA hall
      go_wp2
      all_goals
        go_ret
        refine ⟨ret_bool ?_, rfl⟩
        rw [HR.out]
        grind
/-- Where the first colon stands. -/
def colonI (s : List UInt8) : Int := if Ur.hasC 58 s = true then ((Ur.cutA 58 s).length : Int) else -1
theorem colon_at {s : List UInt8} {k : Nat} (hk : k < s.length) (h : (s.take k).all (fun b => !(b == 58)) = true) (hc : s[k] = 58) : colonI s = k := by
  have e : s = s.take k ++ 58 :: s.drop (k + 1) := by
    rw [← hc, ← List.drop_eq_getElem_cons hk, List.take_append_drop]
  have hf : ∀ b ∈ s.take k, b ≠ 58 := fun b hb => by have := List.all_eq_true.1 h b hb; simpa using this
  have hcut := Ur.cut_of (s.drop (k + 1)) (s.take k) hf
  rw [← e] at hcut
  unfold colonI Ur.hasC
  rw [hcut.1, hcut.2]
  simp; omega
theorem colon_no {s : List UInt8} (h : s.all (fun b => !(b == 58)) = true) : colonI s = -1 := by
  have hcut := Ur.cut_none s fun b hb => by have := List.all_eq_true.1 h b hb; simpa using this
  unfold colonI Ur.hasC
  rw [hcut.2]; rfl
set_option maxHeartbeats 1000000 in
theorem colon_any (s : List UInt8) (w : World) (hs : s.length ≤ 1073741824) :
    Calls Tryz.prog 19 #[.string (bs s)] w fun e w' => e = .returned (.int .i64 (colonI s)) ∧ w = w' := by
  have HC := Lib.hid fun (k : Nat) (hk : k < s.length) h hc => colon_at (s := s) (k := k) hk h hc
  have HN := Lib.hid fun h => colon_no (s := s) h
  generalize colonI s = R at *
  go_enter Tryz.func19, Tryz.ntmps19
  go_wp2
  go_loopg [3] s.length (fun r i wr => ∃ k : Nat, k ≤ s.length ∧ r + k = s.length ∧ i = .int .i64 k ∧ Hid ((s.take k).all (fun b => !(b == 58)) = true) ∧ wr = w)
  case atStart => exact ⟨0, by omega, by omega, rfl, Lib.hid (by simp), rfl⟩
  case round =>
    obtain ⟨k, hk, hr, rfl, HA, rfl⟩ := hrel
    by_cases hlt : k < s.length
    · by_cases h58 : s[k] = 58
      · have e58 := u8eqk h58 58 rfl
        have HR := Lib.hid (HC.out k hlt HA.out h58)
        clear HC HN h58 HA
        go_wp2
        go_ret
        exact ⟨ret_int HR.out.symm, rfl⟩
      · have e58 := u8nek h58 58 rfl
        have HAN : Hid ((s.take (k + 1)).all (fun b => !(b == 58)) = true) := Lib.hid (by rw [all_snoc _ s k hlt, HA.out]; simp [h58])
        clear h58 HA
        go_wp2
        go_roundg (s.length - (k + 1))
        case measure => omega
        case rel => exact ⟨k + 1, by omega, by omega, by go_num, HAN, rfl⟩
    · obtain rfl : k = s.length := by omega
      have HR := Lib.hid (HN.out (all_full _ s HA.out))
      clear HA HC HN
      go_wp2
      go_ret
      exact ⟨ret_int HR.out.symm, rfl⟩
theorem val_take {s : List UInt8} {k : Nat} (h : k < s.length) : Dt.val (s.take (k + 1)) = Dt.val (s.take k) * 10 + ((s[k].toNat : Int) - 48) := by rw [take_snoc s k h, Ur.val_snoc]
theorem isD_no {c : UInt8} (h : Dt.isD c = false) : c.toNat < 48 ∨ 57 < c.toNat := by
  unfold Dt.isD at h
  simp at h
  omega
theorem pow5 : ∀ k : Fin 6, (10 : Int) ^ k.val ≤ 100000 := by decide
set_option maxHeartbeats 1000000 in
theorem rport_any (s : List UInt8) (w : World) (hs : s.length ≤ 1073741824) :
    Calls Tryz.prog 21 #[.string (bs s)] w fun e w' => e = .returned (.int .i64 (Ur.portV s)) ∧ w = w' := by
  have HP : Hid (Ur.portV s = if s = [] ∨ 5 < s.length ∨ s.all Dt.isD = false then 0 else if 65535 < Dt.val s then 0 else Dt.val s) := Lib.hid rfl
  generalize Ur.portV s = R at *
  by_cases h0 : s.length < 1 ∨ 5 < s.length
  · have HR : Hid (R = 0) := Lib.hid (by
      rw [HP.out]
      rcases h0 with h0 | h0
      · rw [if_pos (.inl (List.eq_nil_of_length_eq_zero (by omega)))]
      · rw [if_pos (.inr (.inl h0))])
    clear HP
    by_cases h1 : s.length < 1
    · go_enter Tryz.func21, Tryz.ntmps21
      go_wp2
      go_ret
      exact ⟨ret_int HR.out.symm, rfl⟩
    · have h5 : 5 < s.length := by omega
      go_enter Tryz.func21, Tryz.ntmps21
      go_wp2
      go_ret
      exact ⟨ret_int HR.out.symm, rfl⟩
  · have h1 : ¬ s.length < 1 := by omega
    have h5 : ¬ 5 < s.length := by omega
    have hne : s ≠ [] := by rintro rfl; simp at h1
    have HF : Hid (s.all Dt.isD = false → R = 0) := Lib.hid fun h => by rw [HP.out, if_pos (.inr (.inr h))]
    have HT : Hid (s.all Dt.isD = true → R = if 65535 < Dt.val s then 0 else Dt.val s) := Lib.hid fun h => by rw [HP.out, if_neg (by simp [hne, h]; omega)]
    clear HP h0 hne
    go_enter Tryz.func21, Tryz.ntmps21
    go_wp2
    go_loopg [3, 4] s.length (fun r v i wr => ∃ (k : Nat) (x : Int), k ≤ s.length ∧ r + k = s.length ∧ v = .int .i64 x ∧ i = .int .i64 k ∧ Hid ((s.take k).all Dt.isD = true ∧ x = Dt.val (s.take k)) ∧ 0 ≤ x ∧ x < 100000 ∧ wr = w)
    case atStart => exact ⟨0, 0, by omega, by omega, rfl, rfl, Lib.hid ⟨by simp, rfl⟩, by omega, by omega, rfl⟩
    case round =>
      obtain ⟨k, x, hk, hr, rfl, rfl, HA, hx0, hx1, rfl⟩ := hrel
      by_cases hlt : k < s.length
      · have hc255 := s[k].toNat_lt
        cases hd : Dt.isD s[k] with
        | true =>
          obtain ⟨g1, g2⟩ := Dt.isD_bd hd
          have HAN : Hid ((s.take (k + 1)).all Dt.isD = true ∧ x * 10 + (s[k].toNat : Int) - 48 = Dt.val (s.take (k + 1))) := Lib.hid ⟨by rw [all_snoc _ s k hlt, HA.out.1, hd]; rfl, by rw [val_take hlt, ← HA.out.2]; omega⟩
          have hb := Dt.val_bd HAN.out.1
          rw [← HAN.out.2] at hb
          have hp := pow5 ⟨k + 1, by omega⟩
          have hl : (s.take (k + 1)).length = k + 1 := by simp; omega
          rw [hl] at hb
          have HB : Hid (0 ≤ x * 10 + (s[k].toNat : Int) - 48 ∧ x * 10 + (s[k].toNat : Int) - 48 < 100000) := Lib.hid ⟨hb.1, Int.lt_of_lt_of_le hb.2 hp⟩
          have g0 : ¬ s[k].toNat < 48 := by omega
          have g3 : ¬ 57 < s[k].toNat := by omega
          clear hd HA hb hp hl g1 g2 HF HT
          go_wp2
          go_roundg (s.length - (k + 1))
          case measure => omega
          case rel => exact ⟨k + 1, x * 10 + (s[k].toNat : Int) - 48, by omega, by omega, by go_num, by go_num, HAN, HB.out.1, HB.out.2, rfl⟩
        | false =>
          have HR := Lib.hid (HF.out (all_stop Dt.isD s k hlt hd))
          have hb := isD_no hd
          clear hd HA HF HT
          by_cases g0 : s[k].toNat < 48
          · go_wp2
            go_ret
            exact ⟨ret_int HR.out.symm, rfl⟩
          · have g3 : 57 < s[k].toNat := by omega
            go_wp2
            go_ret
            exact ⟨ret_int HR.out.symm, rfl⟩
      · obtain rfl : k = s.length := by omega
        have hall := all_full Dt.isD s HA.out.1
        have HR := HT.out hall
        have hx := HA.out.2
        rw [List.take_length] at hx
        rw [← hx] at HR
        clear HF HT HA hall hx
        by_cases h6 : 65535 < x
        · rw [if_pos h6] at HR
          have HRH := Lib.hid HR
          clear HR
          go_wp2
          go_ret
          exact ⟨ret_int HRH.out.symm, rfl⟩
        · rw [if_neg h6] at HR
          have HRH := Lib.hid HR
          clear HR
          go_wp2
          go_ret
          exact ⟨ret_int HRH.out.symm, rfl⟩
end Go.Proofs.YtdeaoagdjnnppaaGreatDoor
