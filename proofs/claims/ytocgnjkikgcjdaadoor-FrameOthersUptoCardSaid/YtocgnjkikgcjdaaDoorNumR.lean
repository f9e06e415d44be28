/- The reference's number; fields.Get; slices.Equal at texts. Conditions: texts and lists within 2^20. -/
import Derived.Test.YtocgnjkikgcjdaaDoorLen
set_option linter.unusedVariables false
set_option linter.unusedSimpArgs false
namespace Go.Proofs.YtocgnjkikgcjdaaDoor
open Go.RowKit

/-- The number of the first k digits. -/
def numTo (s : List UInt8) (k : Nat) : Option Nat := Lib.decFrom 0 (s.take k)
set_option maxHeartbeats 1000000 in
theorem numR_any (s : List UInt8) (w : World) :
    Calls Tryd.prog 41 #[.string (bs s)] w fun e w' => e = .returned (.int .i64 (numL s)) ∧ w = w' := by
  by_cases h1 : s.length < 1
  · have hs : s = [] := List.eq_nil_of_length_eq_zero (by omega)
    subst hs
    have HR : Hid (numL [] = -1) := Lib.hid rfl
    go_enter Tryd.func41, Tryd.ntmps41
    go_wp2
    go_ret
    exact ⟨by rw [HR.out]; rfl, rfl⟩
  by_cases h2 : 18 < s.length
  · have HR := Lib.hid (numL_bad_len h2)
    go_enter Tryd.func41, Tryd.ntmps41
    go_wp2
    go_ret
    exact ⟨by rw [HR.out]; rfl, rfl⟩
  have HB : Hid (∀ (k : Nat) (b : UInt8), s[k]? = some b → digB b = false → numL s = -1) := Lib.hid fun k b h hb => by
    apply numL_bad
    rw [← Bool.not_eq_true, List.all_eq_true]
    intro ha
    have := ha b (mem_of_get? h)
    rw [hb] at this; cases this
  have HG : Hid (∀ v : Int, (∃ n : Nat, v = n ∧ Lib.decFrom 0 (s.take s.length) = some n) → (s.take s.length).all digB = true → numL s = v) := Lib.hid fun v h ha => by
    obtain ⟨n, rfl, e⟩ := h
    rw [List.take_length] at e ha
    obtain ⟨m, h3, _, h4, _⟩ := numL_good ha (by rintro rfl; simp at h1) (by omega)
    rw [h4] at e; cases e; exact h3
  have HP : Hid (∀ k, k < 18 → (10 : Nat) ^ k ≤ 100000000000000000) := Lib.hid fun k hk => by
    have h17 : (10 : Nat) ^ k ≤ 10 ^ 17 := Nat.pow_le_pow_right (by omega) (by omega)
    have e17 : (10 : Nat) ^ 17 = 100000000000000000 := by simp
    rwa [e17] at h17
  go_enter Tryd.func41, Tryd.ntmps41
  go_wp2
  go_loop [3, 4] (fun v t => ∃ (k : Nat) (x : Int), k ≤ s.length ∧ t = .int .i64 k ∧ v = .int .i64 x ∧ 0 ≤ x ∧ x < 1000000000000000000 ∧ Hid ((s.take k).all digB = true) ∧ Hid (∃ n : Nat, x = n ∧ Lib.decFrom 0 (s.take k) = some n ∧ n < 10 ^ k)) (fun _ t => s.length - (intOf t).toNat)
  case atStart => exact ⟨0, 0, by omega, rfl, rfl, by omega, by omega, Lib.hid rfl, Lib.hid ⟨0, rfl, rfl, by simp⟩⟩
  case round =>
    obtain ⟨k, x, hk, rfl, rfl, hx0, hx1, HA, HX⟩ := hrel
    by_cases hlt : k < s.length
    · cases hd : digB s[k]
      · have HR := Lib.hid (HB.out k _ (List.getElem?_eq_getElem hlt) hd)
        have hd2 := of_decide_eq_false hd
        clear hd HB HG HA HX HP
        by_cases h48 : s[k].toNat < 48
        · have g1 : ((s[k].toNat : Int) < 48) := by omega
          go_wp2
          go_ret
          exact ⟨by rw [HR.out]; rfl, rfl⟩
        · have g1 : ¬ ((s[k].toNat : Int) < 48) := by omega
          have g2 : ((57 : Int) < (s[k].toNat : Int)) := by omega
          go_wp2
          go_ret
          exact ⟨by rw [HR.out]; rfl, rfl⟩
      · have hd2 := of_decide_eq_true hd
        have hx17 : x < 100000000000000000 := by
          obtain ⟨n, rfl, _, hn⟩ := HX.out
          have := HP.out k (by omega)
          omega
        have HA2 : Hid ((s.take (k + 1)).all digB = true) := Lib.hid (by rw [all_snoc digB s k hlt, HA.out, hd]; rfl)
        have HX2 : Hid (∃ n : Nat, x * 10 + (s[k].toNat : Int) - 48 = n ∧ Lib.decFrom 0 (s.take (k + 1)) = some n ∧ n < 10 ^ (k + 1)) := Lib.hid (by
          obtain ⟨n, e, h3, h4⟩ := HX.out
          refine ⟨n * 10 + (s[k].toNat - 48), by omega, Lib.decFrom_take s k 0 n s[k] _ h3 (List.getElem?_eq_getElem hlt) (digitVal_yes hd), ?_⟩
          rw [Nat.pow_succ]; omega)
        have g1 : ¬ ((s[k].toNat : Int) < 48) := by omega
        have g2 : ¬ ((57 : Int) < (s[k].toNat : Int)) := by omega
        obtain ⟨cv, hcv⟩ : ∃ cv : Int, cv = (s[k].toNat : Int) := ⟨_, rfl⟩
        clear hd HB HG HA HX HP
        go_wp2
        go_round
        case rel => exact ⟨k + 1, x * 10 + (s[k].toNat : Int) - 48, by omega, by go_num, by go_num, by omega, by omega, HA2, HX2⟩
        case measure => simp [intOf]; omega
    · obtain rfl : k = s.length := by omega
      have HR := Lib.hid (HG.out x (by obtain ⟨n, e, h3, _⟩ := HX.out; exact ⟨n, e, h3⟩) HA.out)
      go_wp2
      go_ret
      exact ⟨by rw [HR.out]; rfl, rfl⟩
end Go.Proofs.YtocgnjkikgcjdaaDoor
