/- Joined texts: acl.number and the reference's: a number of so many digits at most. The conditions stand in each line. -/
import Derived.Test.YtgkphjbcaidcpaaGreatDoorM2
import Derived.Test.YtgkphjbcaidcpaaGreatDoorM3
import Derived.Test.YtgkphjbcaidcpaaGreatDoorM4
import Derived.Test.YtgkphjbcaidcpaaGreatDoorM6
import Derived.Lib.SlTrimSet
import Derived.Deep.LoopGhost
import Derived.Deep.Cut
import Derived.Deep.DeepCutAuto
set_option linter.unusedVariables false
set_option linter.unusedSimpArgs false
namespace Go.Proofs.YtgkphjbcaidcpaaGreatDoor
open Go.RowKit

set_option maxRecDepth 100000
theorem trimA_any (s : List UInt8) (w : World) (hs : s.length ≤ 4398046511104) :
    Calls Tryz.prog 72 #[.string (bs s), .string (bs digS)] w fun e w' => e = .returned (.string (bs (Lib.trimS s digS))) ∧ Below w.heap.size w w' :=
  Tryz.strings_Trim_set (bs s) (bs digS) w (by simp; omega) (by decide) (ascii_of_all (by decide))
theorem Ac.num_yes {s : List UInt8} {d m n : Nat} (hd : d ≤ 18) (h : Ac.num s d m = some n) : s ≠ [] ∧ s.length ≤ d ∧ s.all digB = true ∧ n ≤ m ∧ numL s = (n : Int) := by
  unfold Ac.num at h
  split at h
  · rename_i hl
    cases hn : Lib.decNat s with
    | none => rw [hn] at h; cases h
    | some k =>
      rw [hn] at h
      simp only at h
      split at h
      · cases h
        refine ⟨?_, hl, ?_, by assumption, ?_⟩
        · rintro rfl; cases hn
        · cases ha : s.all digB with
          | true => rfl
          | false =>
            have := numL_bad ha
            unfold numL at this
            rw [if_pos (by omega), hn] at this
            exact absurd this (by simp only; omega)
        · unfold numL; rw [if_pos (by omega), hn]
      · cases h
  · cases h
theorem Ac.num_no {s : List UInt8} {d m : Nat} (hd : d ≤ 18) (h : Ac.num s d m = none) : s = [] ∨ d < s.length ∨ s.all digB = false ∨ (s ≠ [] ∧ s.length ≤ d ∧ s.all digB = true ∧ ∃ n : Nat, numL s = (n : Int) ∧ m < n) := by
  by_cases h0 : s = []
  · exact .inl h0
  by_cases h1 : d < s.length
  · exact .inr (.inl h1)
  cases ha : s.all digB with
  | false => exact .inr (.inr (.inl rfl))
  | true =>
    refine .inr (.inr (.inr ⟨h0, by omega, rfl, ?_⟩))
    obtain ⟨n, e, _, _, _⟩ := numL_good ha h0 (by omega)
    refine ⟨n, e, ?_⟩
    unfold Ac.num at h
    rw [if_pos (by omega)] at h
    unfold numL at e
    rw [if_pos (by omega)] at e
    cases hn : Lib.decNat s with
    | none => rw [hn] at e; exact absurd e (by simp only; omega)
    | some k =>
      rw [hn] at h e
      simp only at h e
      split at h
      · cases h
      · omega
set_option maxHeartbeats 1000000 in
theorem acnum_any (s : List UInt8) (d m : Nat) (w : World) (hs : s.length ≤ 4398046511104) (hd : d ≤ 18) (hm : m ≤ 1000000) :
    Calls Tryz.prog 65 #[.string (bs s), .int .i64 (d : Int), .int .i64 (m : Int)] w fun e w' => (∃ v : Int, e = .returned (.tuple #[.int .i64 v, .bool (Ac.num s d m).isSome]) ∧ ∀ n : Nat, Ac.num s d m = some n → v = (n : Int)) ∧ Below w.heap.size w w' := by
  have HD : Hid (digS = [48, 49, 50, 51, 52, 53, 54, 55, 56, 57]) := Lib.hid rfl
  have hT := trimA_any s w hs
  rw [HD.out] at hT
  have good : ∀ (n : Nat) (ok : Bool), s ≠ [] → s.length ≤ d → s.all digB = true → numL s = (n : Int) → decide ((n : Int) ≤ (m : Int)) = ok → Calls Tryz.prog 65 #[.string (bs s), .int .i64 (d : Int), .int .i64 (m : Int)] w fun e w' => e = .returned (.tuple #[.int .i64 (n : Int), .bool ok]) ∧ Below w.heap.size w w' := by
    intro n ok h0 hl ha hn hok
    have hp : Lib.trimS s [48, 49, 50, 51, 52, 53, 54, 55, 56, 57] = [] := by rw [← HD.out]; exact trimDig_nil ha
    rw [hp] at hT
    obtain ⟨m0, e0, hm2, hdf, hat⟩ := numL_good ha h0 (by omega)
    have hnm : n = m0 := by omega
    subst hnm
    have HAt := Lib.hid hat
    have hm3 : (n : Int) < 1000000000000000000 := by omega
    have hm4 : 0 ≤ (n : Int) := by omega
    have he : s.isEmpty = false := by cases s with
      | nil => exact absurd rfl h0
      | cons a b => rfl
    have hgt : ¬ ((d : Int) < (s.length : Int)) := by omega
    have hl18 : s.length ≤ 18 := by omega
    clear hp ha h0 hn e0 hm2 hdf hat hl
    generalize (n : Int) = nn at *
    generalize (m : Int) = mm at *
    generalize (d : Int) = dd at *
    have HOK := Lib.hid hok
    clear hok
    go_enter Tryz.func65, Tryz.ntmps65
    go_wp2_with fail
    refine hT.mono ?_
    rintro e w1 ⟨rfl, hb1⟩
    go_wp2_with fail
    refine (Tryz.strconv_Atoi (bs s) nn (by simp; omega) HAt.out _).mono ?_
    rintro e w4 ⟨rfl, tt, rfl⟩
    have hb4 := bytesWorld_below w1 5 tt
    generalize Lib.bytesWorld w1 5 tt = w4 at *
    have HOK2 := HOK.out
    go_wp2
    go_ret2
    exact ⟨rfl, bnext hb1 hb4 hb1.size⟩
  cases hn : Ac.num s d m with
  | some n =>
    obtain ⟨h0, h1, h2, h3, h4⟩ := Ac.num_yes hd hn
    refine (good n true h0 h1 h2 h4 (decide_eq_true (by omega))).mono ?_
    rintro e w' ⟨rfl, hb⟩
    exact ⟨⟨_, rfl, fun k hk => by cases hk; rfl⟩, hb⟩
  | none =>
    have fin : ∀ (v : Int) e w', e = Ending.returned (.tuple #[.int .i64 v, .bool false]) ∧ Below w.heap.size w w' → (∃ v : Int, e = .returned (.tuple #[.int .i64 v, .bool (none : Option Nat).isSome]) ∧ ∀ n : Nat, (none : Option Nat) = some n → v = (n : Int)) ∧ Below w.heap.size w w' := fun v e w' h => ⟨⟨v, h.1, fun n hn => by cases hn⟩, h.2⟩
    rcases Ac.num_no hd hn with h | h | h | ⟨h0, h1, h2, n, h3, h4⟩
    · refine Calls.mono (R := fun e w' => e = Ending.returned (.tuple #[.int .i64 0, .bool false]) ∧ Below w.heap.size w w') ?_ (fin 0)
      subst h
      clear hn hT good fin
      generalize (m : Int) = mm at *
      generalize (d : Int) = dd at *
      go_enter Tryz.func65, Tryz.ntmps65
      go_wp2
      go_ret2
      exact ⟨rfl, Below.refl _ _⟩
    · refine Calls.mono (R := fun e w' => e = Ending.returned (.tuple #[.int .i64 0, .bool false]) ∧ Below w.heap.size w w') ?_ (fin 0)
      have he : s.isEmpty = false := by cases s with
        | nil => simp at h
        | cons a b => rfl
      have hgt : ((d : Int) < (s.length : Int)) := by omega
      clear hn hT good fin h hd
      generalize (m : Int) = mm at *
      generalize (d : Int) = dd at *
      go_enter Tryz.func65, Tryz.ntmps65
      go_wp2
      go_ret2
      exact ⟨rfl, Below.refl _ _⟩
    · refine Calls.mono (R := fun e w' => e = Ending.returned (.tuple #[.int .i64 0, .bool false]) ∧ Below w.heap.size w w') ?_ (fin 0)
      by_cases hgt0 : d < s.length
      · have he : s.isEmpty = false := by cases s with
          | nil => simp at hgt0
          | cons a b => rfl
        have hgt : ((d : Int) < (s.length : Int)) := by omega
        clear hn hT good fin h hd hgt0
        generalize (m : Int) = mm at *
        generalize (d : Int) = dd at *
        go_enter Tryz.func65, Tryz.ntmps65
        go_wp2
        go_ret2
        exact ⟨rfl, Below.refl _ _⟩
      · have hgt : ¬ ((d : Int) < (s.length : Int)) := by omega
        have hp : (Lib.trimS s [48, 49, 50, 51, 52, 53, 54, 55, 56, 57]).isEmpty = false := by
          rw [← HD.out]
          have := trimDig_some h
          cases hp : Lib.trimS s digS with
          | nil => exact absurd hp this
          | cons _ _ => rfl
        have he : s.isEmpty = false := by cases s with
          | nil => simp at h
          | cons a b => rfl
        generalize Lib.trimS s [48, 49, 50, 51, 52, 53, 54, 55, 56, 57] = p at *
        clear hn good fin h hd hgt0
        generalize (m : Int) = mm at *
        generalize (d : Int) = dd at *
        go_enter Tryz.func65, Tryz.ntmps65
        go_wp2_with fail
        refine hT.mono ?_
        rintro e w1 ⟨rfl, hb1⟩
        go_wp2
        go_ret2
        exact ⟨rfl, hb1⟩
    · exact (good n false h0 h1 h2 h3 (decide_eq_false (by omega))).mono (fin n)
def numI (o : Option Nat) : Int := match o with | some n => (n : Int) | none => -1
set_option maxHeartbeats 1000000 in
theorem acnumR_any (s : List UInt8) (d m : Nat) (w : World) (hd : d ≤ 18) (hm : m ≤ 1000000) :
    Calls Tryz.prog 57 #[.string (bs s), .int .i64 (d : Int), .int .i64 (m : Int)] w fun e w' => e = .returned (.int .i64 (numI (Ac.num s d m))) ∧ w = w' := by
  by_cases h1 : s.length < 1
  · have hs : s = [] := List.eq_nil_of_length_eq_zero (by omega)
    subst hs
    have HR : Hid (numI (Ac.num [] d m) = -1) := Lib.hid (by unfold Ac.num; rw [if_pos (by simp)]; rfl)
    generalize numI (Ac.num [] d m) = R at *
    generalize (m : Int) = mm at *
    generalize (d : Int) = dd at *
    go_enter Tryz.func57, Tryz.ntmps57
    go_wp2
    go_ret
    exact ⟨by rw [HR.out]; rfl, rfl⟩
  by_cases h2 : d < s.length
  · have HR : Hid (numI (Ac.num s d m) = -1) := Lib.hid (by unfold Ac.num; rw [if_neg (by omega)]; rfl)
    have g1 : ¬ ((s.length : Int) < 1) := by omega
    have g2 : ((d : Int) < (s.length : Int)) := by omega
    generalize numI (Ac.num s d m) = R at *
    clear hm hd h2 h1
    generalize (m : Int) = mm at *
    generalize (d : Int) = dd at *
    go_enter Tryz.func57, Tryz.ntmps57
    go_wp2
    go_ret
    exact ⟨by rw [HR.out]; rfl, rfl⟩
  have h0 : s ≠ [] := by rintro rfl; simp at h1
  have HB : Hid (∀ (k : Nat) (b : UInt8), s[k]? = some b → digB b = false → numI (Ac.num s d m) = -1) := Lib.hid fun k b h hb => by
    have ha : s.all digB = false := by
      rw [← Bool.not_eq_true, List.all_eq_true]
      intro ha
      have := ha b (mem_of_get? h)
      rw [hb] at this; cases this
    cases hn : Ac.num s d m with
    | none => rfl
    | some n => obtain ⟨_, _, h3, _⟩ := Ac.num_yes hd hn; rw [ha] at h3; cases h3
  have HG : Hid (∀ v : Int, (∃ n : Nat, v = n ∧ Lib.decFrom 0 (s.take s.length) = some n) → (s.take s.length).all digB = true → numI (Ac.num s d m) = if (m : Int) < v then -1 else v) := Lib.hid fun v h ha => by
    obtain ⟨n, rfl, e⟩ := h
    rw [List.take_length] at e ha
    obtain ⟨k, h3, _, h4, _⟩ := numL_good ha h0 (by omega)
    rw [h4] at e; cases e
    cases hn : Ac.num s d m with
    | none =>
      rcases Ac.num_no hd hn with h | h | h | ⟨_, _, _, k, h5, h6⟩
      · exact absurd h h0
      · omega
      · rw [ha] at h; cases h
      · rw [if_pos (by omega)]; rfl
    | some k => obtain ⟨_, _, _, h5, h6⟩ := Ac.num_yes hd hn; rw [if_neg (by omega)]; show (k : Int) = _; omega
  have HP : Hid (∀ k, k < 18 → (10 : Nat) ^ k ≤ 100000000000000000) := Lib.hid fun k hk => by
    have h17 : (10 : Nat) ^ k ≤ 10 ^ 17 := Nat.pow_le_pow_right (by omega) (by omega)
    have e17 : (10 : Nat) ^ 17 = 100000000000000000 := by simp
    rwa [e17] at h17
  have g0 : ¬ ((s.length : Int) < 1) := by omega
  have g00 : ¬ ((d : Int) < (s.length : Int)) := by omega
  have hl18 : s.length ≤ 18 := by omega
  generalize numI (Ac.num s d m) = R at *
  clear h2 h1 h0 hd hm
  generalize (m : Int) = mm at *
  generalize (d : Int) = dd at *
  go_enter Tryz.func57, Tryz.ntmps57
  go_wp2
  go_loop [7, 8] (fun v t => ∃ (k : Nat) (x : Int), k ≤ s.length ∧ t = .int .i64 k ∧ v = .int .i64 x ∧ 0 ≤ x ∧ x < 1000000000000000000 ∧ Hid ((s.take k).all digB = true) ∧ Hid (∃ n : Nat, x = n ∧ Lib.decFrom 0 (s.take k) = some n ∧ n < 10 ^ k)) (fun _ t => s.length - (intOf t).toNat)
  case atStart => exact ⟨0, 0, by omega, rfl, rfl, by omega, by omega, Lib.hid rfl, Lib.hid ⟨0, rfl, rfl, by simp⟩⟩
  case round =>
    obtain ⟨k, x, hk, rfl, rfl, hx0, hx1, HA, HX⟩ := hrel
    by_cases hlt : k < s.length
    · cases hd : digB s[k]
      · have HR := Lib.hid (HB.out k _ (List.getElem?_eq_getElem hlt) hd)
        have hd2 := of_decide_eq_false hd
        clear hd HB HG HA HX HP
        by_cases h48 : s[k].toNat < 48
        · have g1 : ((s[k].toNat : Int) < 48) := by omega
          go_wp2
          go_ret
          exact ⟨by rw [HR.out]; rfl, rfl⟩
        · have g1 : ¬ ((s[k].toNat : Int) < 48) := by omega
          have g2 : ((57 : Int) < (s[k].toNat : Int)) := by omega
          go_wp2
          go_ret
          exact ⟨by rw [HR.out]; rfl, rfl⟩
      · have hd2 := of_decide_eq_true hd
        have hx17 : x < 100000000000000000 := by
          obtain ⟨n, rfl, _, hn⟩ := HX.out
          have := HP.out k (by omega)
          omega
        have HA2 : Hid ((s.take (k + 1)).all digB = true) := Lib.hid (by rw [all_snoc digB s k hlt, HA.out, hd]; rfl)
        have HX2 : Hid (∃ n : Nat, x * 10 + (s[k].toNat : Int) - 48 = n ∧ Lib.decFrom 0 (s.take (k + 1)) = some n ∧ n < 10 ^ (k + 1)) := Lib.hid (by
          obtain ⟨n, e, h3, h4⟩ := HX.out
          refine ⟨n * 10 + (s[k].toNat - 48), by omega, Lib.decFrom_take s k 0 n s[k] _ h3 (List.getElem?_eq_getElem hlt) (digitVal_yes hd), ?_⟩
          rw [Nat.pow_succ]; omega)
        have g1 : ¬ ((s[k].toNat : Int) < 48) := by omega
        have g2 : ¬ ((57 : Int) < (s[k].toNat : Int)) := by omega
        obtain ⟨cv, hcv⟩ : ∃ cv : Int, cv = (s[k].toNat : Int) := ⟨_, rfl⟩
        clear hd HB HG HA HX HP
        go_wp2
        go_round
        case rel => exact ⟨k + 1, x * 10 + (s[k].toNat : Int) - 48, by omega, by go_num, by go_num, by omega, by omega, HA2, HX2⟩
        case measure => simp [intOf]; omega
    · obtain rfl : k = s.length := by omega
      have HR := Lib.hid (HG.out x (by obtain ⟨n, e, h3, _⟩ := HX.out; exact ⟨n, e, h3⟩) HA.out)
      clear HG HB HA HX HP
      by_cases hmx : mm < x
      · rw [if_pos hmx] at HR
        go_wp2
        go_ret
        exact ⟨by rw [HR.out]; rfl, rfl⟩
      · rw [if_neg hmx] at HR
        go_wp2
        go_ret
        exact ⟨by rw [HR.out]; rfl, rfl⟩
end Go.Proofs.YtgkphjbcaidcpaaGreatDoor
