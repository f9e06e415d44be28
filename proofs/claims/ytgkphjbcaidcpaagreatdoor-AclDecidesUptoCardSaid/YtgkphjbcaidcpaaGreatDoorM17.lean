/- Joined texts: The reference's clock, ports and network; The reference's glob: a table of truths. The conditions stand in each line. -/
import Derived.Test.YtgkphjbcaidcpaaGreatDoorM8
import Derived.Test.YtgkphjbcaidcpaaGreatDoorM16
import Derived.Deep.OwnRows
set_option linter.unusedVariables false
set_option linter.unusedSimpArgs false
namespace Go.Proofs.YtgkphjbcaidcpaaGreatDoor
open Go.RowKit

set_option maxRecDepth 100000
namespace Ac
theorem prt_num (X Y : Option Nat) : ((both X Y).bind prtOK).isSome = (decide (1 ≤ numI X) && decide (numI X ≤ numI Y)) ∧ ∀ n b : Nat, (both X Y).bind prtOK = some (n, b) → numI X = (n : Int) ∧ numI Y = (b : Int) := by
  cases X with
  | none => exact ⟨by rw [both_l]; rfl, fun _ _ h => by rw [both_l] at h; cases h⟩
  | some a =>
    cases Y with
    | none =>
      refine ⟨?_, fun _ _ h => by cases h⟩
      show false = _
      symm
      rw [Bool.and_eq_false_iff]
      by_cases h : 1 ≤ numI (some a)
      · exact .inr (decide_eq_false (by unfold numI at *; simp only at *; omega))
      · exact .inl (decide_eq_false h)
    | some b =>
      have e : (both (some a) (some b)).bind prtOK = if 1 ≤ a ∧ a ≤ b then some (a, b) else none := rfl
      rw [e]
      constructor
      · rw [Bool.eq_iff_iff, Bool.and_eq_true, decide_eq_true_iff, decide_eq_true_iff]
        unfold numI
        simp only
        by_cases hh : 1 ≤ a ∧ a ≤ b
        · rw [if_pos hh]; exact ⟨fun _ => ⟨by omega, by omega⟩, fun _ => rfl⟩
        · rw [if_neg hh]; exact ⟨fun h => (by cases h), fun h => (hh ⟨by omega, by omega⟩).elim⟩
      · intro n m h
        split at h
        · cases h; exact ⟨rfl, rfl⟩
        · cases h
theorem num_has {s : T} {d m : Nat} {c : UInt8} (hd : d ≤ 18) (hc : digB c = false) (h : Ur.hasC c s = true) : num s d m = none := by
  cases hn : num s d m with
  | none => rfl
  | some n =>
    have := num_digs hd hn c hc
    have h2 := (Ur.splitc_one this)
    rw [Ur.splitc_yes h] at h2
    have h3 := congrArg List.length h2
    have h4 := Ur.splitc_ne c (Ur.cutB c s)
    cases h5 : Ur.splitc c (Ur.cutB c s) with
    | nil => exact absurd h5 h4
    | cons a b => rw [h5] at h3; simp at h3
/-- A text at its first c, three ways. -/
theorem split_ways (c : UInt8) (s : T) : (Ur.hasC c s = false ∧ Ur.splitc c s = [s]) ∨ (Ur.hasC c s = true ∧ Ur.hasC c (Ur.cutB c s) = false ∧ Ur.splitc c s = [Ur.cutA c s, Ur.cutB c s]) ∨ (Ur.hasC c s = true ∧ Ur.hasC c (Ur.cutB c s) = true ∧ 2 < (Ur.splitc c s).length ∧ (Ur.splitc c s)[0]? = some (Ur.cutA c s)) := by
  cases h : Ur.hasC c s with
  | false => exact .inl ⟨rfl, Ur.splitc_no h⟩
  | true =>
    cases h2 : Ur.hasC c (Ur.cutB c s) with
    | false => exact .inr (.inl ⟨rfl, rfl, by rw [Ur.splitc_yes h, Ur.splitc_no h2]⟩)
    | true =>
      refine .inr (.inr ⟨rfl, rfl, ?_, by rw [Ur.splitc_yes h]; rfl⟩)
      rw [Ur.splitc_yes h, Ur.splitc_yes h2]
      have h4 := Ur.splitc_ne c (Ur.cutB c (Ur.cutB c s))
      cases h5 : Ur.splitc c (Ur.cutB c (Ur.cutB c s)) with
      | nil => exact absurd h5 h4
      | cons a b => simp
/-- The number of a network's address with so many bits (below 0: none). -/
def netB (x : T) (b : Int) : Option (Nat × Nat) := if 0 ≤ b then net4 x b.toNat else none
theorem net_ways (s : T) : (Ur.hasC 47 s = false → net s = netB s 32) ∧ (Ur.hasC 47 s = true → net s = netB (Ur.cutA 47 s) (numI (num (Ur.cutB 47 s) 2 32))) := by
  refine ⟨fun h => by unfold net netB; rw [h, if_neg (by simp), if_pos (by omega)]; rfl, fun h => ?_⟩
  unfold net netB
  rw [h, if_pos rfl]
  cases num (Ur.cutB 47 s) 2 32 with
  | none => rw [if_neg (by unfold numI; simp)]
  | some n =>
    rw [if_pos (by unfold numI; simp only; omega)]
    show net4 _ n = net4 _ ((n : Int)).toNat
    rw [Int.toNat_natCast]
theorem netB_good {x : T} {b : Int} {v : Nat} {l : List T} (hl : Ur.splitc 46 x = l) (h : octK l l.length v) : netB x b = if 0 ≤ b ∧ l.length = 4 then some (v, b.toNat) else none := by
  unfold netB
  by_cases h0 : 0 ≤ b
  · rw [if_pos h0, net4_good hl h]
    by_cases h4 : l.length = 4
    · rw [if_pos h4, if_pos ⟨h0, h4⟩]
    · rw [if_neg h4, if_neg (fun h => h4 h.2)]
  · rw [if_neg h0, if_neg (fun h => h0 h.1)]
theorem netB_bad {x : T} {b : Int} {l : List T} {p : T} {k : Nat} (hl : Ur.splitc 46 x = l) (hx : l[k]? = some p) (hn : num p 3 255 = none) : netB x b = none := by
  unfold netB
  split
  · exact net4_bad hl hx hn
  · rfl
theorem numI_none {o : Option Nat} (h : o = none) : numI o = -1 := by rw [h]; rfl
theorem numI_ge (o : Option Nat) : -1 ≤ numI o := by cases o <;> (unfold numI; simp only; omega)
end Ac
set_option maxHeartbeats 1000000 in
theorem rclock_any (s : List UInt8) (w : World) (hl : s.length ≤ 4194304) :
    Calls Tryz.prog 43 #[.string (bs s)] w fun e w' => e = .returned (.int .i64 (numI (Ac.clk s))) ∧ w' = w := by
  by_cases h5 : s.length = 5
  · have hx : s[2]? = some s[2] := List.getElem?_eq_getElem (by omega)
    by_cases h58 : s[2] = 58
    · have e58 : ((s[2].toNat : Int) != 58) = false := by rw [bne, u8eqk h58 58 rfl]; rfl
      have HC : Hid (numI (Ac.clk s) = numI ((Ac.both (Ac.num (s.take 2) 2 23) (Ac.num (s.drop 3) 2 59)).map fun p => p.1 * 3600 + p.2 * 60)) := Lib.hid (by
        unfold Ac.clk; rw [if_pos ⟨h5, by rw [hx, h58]⟩])
      have h1 := fun W => acnumR_any (s.take 2) 2 23 W (by omega) (by omega)
      have h2 := fun W => acnumR_any (s.drop 3) 2 59 W (by omega) (by omega)
      generalize numI (Ac.clk s) = R at *
      have HV : Hid ((numI (Ac.num (s.take 2) 2 23) < 0 → R = -1) ∧ (numI (Ac.num (s.drop 3) 2 59) < 0 → R = -1) ∧ (0 ≤ numI (Ac.num (s.take 2) 2 23) → 0 ≤ numI (Ac.num (s.drop 3) 2 59) → R = numI (Ac.num (s.take 2) 2 23) * 3600 + numI (Ac.num (s.drop 3) 2 59) * 60)) := Lib.hid (by
        have hC := HC.out
        clear HC h1 h2
        generalize Ac.num (s.take 2) 2 23 = X at *
        generalize Ac.num (s.drop 3) 2 59 = Y at *
        rw [hC]
        cases X with
        | none => rw [Ac.both_l]; exact ⟨fun _ => rfl, fun _ => rfl, fun h => by unfold numI at h; simp at h⟩
        | some a =>
          cases Y with
          | none => exact ⟨fun _ => rfl, fun _ => rfl, fun _ h => by unfold numI at h; simp at h⟩
          | some b => exact ⟨fun h => by unfold numI at h; simp only at h; omega, fun h => by unfold numI at h; simp only at h; omega, fun _ _ => by show ((a * 3600 + b * 60 : Nat) : Int) = (a : Int) * 3600 + (b : Int) * 60; omega⟩)
      have b1 : numI (Ac.num (s.take 2) 2 23) ≤ 23 ∧ -1 ≤ numI (Ac.num (s.take 2) 2 23) := by
        refine ⟨?_, Ac.numI_ge _⟩
        cases hn : Ac.num (s.take 2) 2 23 with
        | none => unfold numI; simp
        | some n => have := (Ac.num_yes (by omega) hn).2.2.2.1; unfold numI; simp only; omega
      have b2 : numI (Ac.num (s.drop 3) 2 59) ≤ 59 ∧ -1 ≤ numI (Ac.num (s.drop 3) 2 59) := by
        refine ⟨?_, Ac.numI_ge _⟩
        cases hn : Ac.num (s.drop 3) 2 59 with
        | none => unfold numI; simp
        | some n => have := (Ac.num_yes (by omega) hn).2.2.2.1; unfold numI; simp only; omega
      obtain ⟨b11, b12⟩ := b1
      obtain ⟨b21, b22⟩ := b2
      generalize numI (Ac.num (s.take 2) 2 23) = X at *
      generalize numI (Ac.num (s.drop 3) 2 59) = Y at *
      have hd3 : (s.drop 3).take 2 = s.drop 3 := List.take_of_length_le (by simp; omega)
      have l5 : (s.length : Int) = 5 := by omega
      clear hx HC h58
      go_enter Tryz.func43, Tryz.ntmps43
      go_wp2_with fail
      refine (h1 _).mono ?_
      rintro e w1 ⟨rfl, rfl⟩
      go_wp2_with fail
      refine (h2 _).mono ?_
      rintro e w1 ⟨rfl, rfl⟩
      by_cases g1 : X < 0
      · have HR := Lib.hid (HV.out.1 g1)
        clear HV
        go_wp2
        go_ret
        exact ⟨by rw [HR.out]; rfl, rfl⟩
      · by_cases g2 : Y < 0
        · have HR := Lib.hid (HV.out.2.1 g2)
          clear HV
          go_wp2
          go_ret
          exact ⟨by rw [HR.out]; rfl, rfl⟩
        · have HR := Lib.hid (HV.out.2.2 (by omega) (by omega))
          clear HV
          go_wp2
          go_ret
          exact ⟨by rw [HR.out]; rfl, rfl⟩
    · have e58 : ((s[2].toNat : Int) != 58) = true := by rw [bne, u8nek h58 58 rfl]; rfl
      have HC : Hid (numI (Ac.clk s) = -1) := Lib.hid (by
        unfold Ac.clk; rw [if_neg (by rintro ⟨_, h⟩; rw [hx] at h; injection h with h; exact h58 h)]; rfl)
      generalize numI (Ac.clk s) = R at *
      have l5 : (s.length : Int) = 5 := by omega
      clear hx h58
      go_enter Tryz.func43, Tryz.ntmps43
      go_wp2
      go_ret
      exact ⟨by rw [HC.out]; rfl, rfl⟩
  · have HC : Hid (numI (Ac.clk s) = -1) := Lib.hid (by unfold Ac.clk; rw [if_neg (fun h => h5 h.1)]; rfl)
    have e5 : ((s.length : Int) != 5) = true := by rw [bne_iff_ne]; omega
    generalize numI (Ac.clk s) = R at *
    go_enter Tryz.func43, Tryz.ntmps43
    go_wp2
    go_ret
    exact ⟨by rw [HC.out]; rfl, rfl⟩
/-- What a parser of two numbers answers. -/
def TwoOut (o : Option (Nat × Nat)) (w : World) (e : Ending) (w' : World) : Prop := (∃ x y : Int, e = .returned (.tuple #[.int .i64 x, .int .i64 y, .bool o.isSome]) ∧ ∀ n b : Nat, o = some (n, b) → x = (n : Int) ∧ y = (b : Int)) ∧ Below w.heap.size w w'
set_option maxHeartbeats 2000000 in
theorem rports_any (s : List UInt8) (w : World) (hl : s.length ≤ 4194304) :
    Calls Tryz.prog 42 #[.string (bs s)] w fun e w' => TwoOut (Ac.prt s) w e w' := by
  have hC := rcut_any s 45 w (by omega)
  have hlen := cut_len 45 s
  unfold TwoOut
  rcases Ac.split_ways 45 s with ⟨hc, hs⟩ | ⟨hc, hc2, hs⟩ | ⟨hc, hc2, h2, hs⟩
  · have hE : Ac.prt s = (Ac.both (Ac.num (s) 5 65535) (Ac.num (s) 5 65535)).bind Ac.prtOK := by
      unfold Ac.prt; rw [hc]; rfl
    have hP := Ac.prt_num (Ac.num (s) 5 65535) (Ac.num (s) 5 65535)
    rw [← hE] at hP
    have h1 := fun W => acnumR_any (s) 5 65535 W (by omega) (by omega)
    have h2 := fun W => acnumR_any (s) 5 65535 W (by omega) (by omega)
    have hnl : (Ur.splitc 45 s).length = 1 := by rw [hs]; rfl
    have HS := Lib.hid hs
    generalize Ac.prt s = R at *
    generalize numI (Ac.num (s) 5 65535) = x at *
    have HP := Lib.hid hP
    clear hE hP hc hs
    go_enter Tryz.func42, Tryz.ntmps42
    go_wp2_with fail
    refine hC.mono ?_
    rintro e w1 ⟨A, n, c, rfl, hS, hb⟩
    have hR := hS.rd
    clear hC hS
    have hn : n = 1 := by rw [← hR.1]; exact hnl
    subst hn
    obtain ⟨g, o, p0, hA, hg, HX0, hc0⟩ := hR.at_ (k := 0) (by omega)
    have e0 : p0 = s := by have h1 := HX0.out; rw [HS.out] at h1; exact (Option.some.inj h1).symm
    subst hA
    subst e0
    rw [Nat.add_zero] at hc0
    clear HX0 HS hR hnl
    go_wp2_with fail
    refine (h1 _).mono ?_
    rintro e w2 ⟨rfl, hw⟩
    subst hw
    by_cases g1 : x < 1
    · have HR : Hid (R.isSome = false ∧ ∀ n b : Nat, R = some (n, b) → x = (n : Int) ∧ x = (b : Int)) := Lib.hid ⟨by rw [HP.out.1, Bool.and_eq_false_iff]; exact .inl (decide_eq_false (by omega)), HP.out.2⟩
      clear HP
      go_wp2
      go_ret3
      exact ⟨⟨_, _, by rw [HR.out.1]; rfl, HR.out.2⟩, hb⟩
    · · have HR : Hid (R.isSome = true ∧ ∀ n b : Nat, R = some (n, b) → x = (n : Int) ∧ x = (b : Int)) := Lib.hid ⟨by rw [HP.out.1, Bool.and_eq_true]; exact ⟨decide_eq_true (by omega), decide_eq_true (by omega)⟩, HP.out.2⟩
        clear HP
        go_wp2
        go_ret3
        exact ⟨⟨_, _, by rw [HR.out.1]; rfl, HR.out.2⟩, hb⟩
  · have hE : Ac.prt s = (Ac.both (Ac.num (Ur.cutA 45 s) 5 65535) (Ac.num (Ur.cutB 45 s) 5 65535)).bind Ac.prtOK := by
      unfold Ac.prt; rw [hc]; rfl
    have hP := Ac.prt_num (Ac.num (Ur.cutA 45 s) 5 65535) (Ac.num (Ur.cutB 45 s) 5 65535)
    rw [← hE] at hP
    have h1 := fun W => acnumR_any (Ur.cutA 45 s) 5 65535 W (by omega) (by omega)
    have h2 := fun W => acnumR_any (Ur.cutB 45 s) 5 65535 W (by omega) (by omega)
    have hnl : (Ur.splitc 45 s).length = 2 := by rw [hs]; rfl
    have HS := Lib.hid hs
    generalize Ac.prt s = R at *
    generalize numI (Ac.num (Ur.cutA 45 s) 5 65535) = x at *
    generalize numI (Ac.num (Ur.cutB 45 s) 5 65535) = y at *
    have HP := Lib.hid hP
    clear hE hP hc hs
    go_enter Tryz.func42, Tryz.ntmps42
    go_wp2_with fail
    refine hC.mono ?_
    rintro e w1 ⟨A, n, c, rfl, hS, hb⟩
    have hR := hS.rd
    clear hC hS
    have hn : n = 2 := by rw [← hR.1]; exact hnl
    subst hn
    obtain ⟨g, o, p0, hA, hg, HX0, hc0⟩ := hR.at_ (k := 0) (by omega)
    have e0 : p0 = Ur.cutA 45 s := by have h1 := HX0.out; rw [HS.out] at h1; exact (Option.some.inj h1).symm
    subst hA
    subst e0
    rw [Nat.add_zero] at hc0
    obtain ⟨g', o', p1, hA, hg', HX1, hc1⟩ := hR.at_ (k := 1) (by omega)
    injection hA with hA
    injection hA with hA1 hA2
    subst hA1 hA2
    have e1 : p1 = Ur.cutB 45 s := by have h1 := HX1.out; rw [HS.out] at h1; exact (Option.some.inj h1).symm
    subst e1
    clear HX1
    clear HX0 HS hR hnl
    go_wp2_with fail
    refine (h1 _).mono ?_
    rintro e w2 ⟨rfl, hw⟩
    subst hw
    go_wp2_with fail
    refine (h2 _).mono ?_
    rintro e w2 ⟨rfl, hw⟩
    subst hw
    by_cases g1 : x < 1
    · have HR : Hid (R.isSome = false ∧ ∀ n b : Nat, R = some (n, b) → x = (n : Int) ∧ y = (b : Int)) := Lib.hid ⟨by rw [HP.out.1, Bool.and_eq_false_iff]; exact .inl (decide_eq_false (by omega)), HP.out.2⟩
      clear HP
      go_wp2
      go_ret3
      exact ⟨⟨_, _, by rw [HR.out.1]; rfl, HR.out.2⟩, hb⟩
    · by_cases g2 : y < x
      · have g2' : decide (x ≤ y) = false := decide_eq_false (by omega)
        have HR : Hid (R.isSome = false ∧ ∀ n b : Nat, R = some (n, b) → x = (n : Int) ∧ y = (b : Int)) := Lib.hid ⟨by rw [HP.out.1, Bool.and_eq_false_iff]; exact .inr (decide_eq_false (by omega)), HP.out.2⟩
        have HD := Lib.hid g2'
        clear HP g2'
        go_wp2
        go_ret3
        exact ⟨⟨_, _, by rw [HR.out.1, ← HD.out]; rfl, HR.out.2⟩, hb⟩
      · have HR : Hid (R.isSome = true ∧ ∀ n b : Nat, R = some (n, b) → x = (n : Int) ∧ y = (b : Int)) := Lib.hid ⟨by rw [HP.out.1, Bool.and_eq_true]; exact ⟨decide_eq_true (by omega), decide_eq_true (by omega)⟩, HP.out.2⟩
        clear HP
        go_wp2
        go_ret3
        exact ⟨⟨_, _, by rw [HR.out.1]; rfl, HR.out.2⟩, hb⟩
  · have hE : Ac.prt s = none := by
      unfold Ac.prt; rw [hc, if_pos rfl, Ac.num_has (by omega) (by decide) hc2, Ac.both_r]; rfl
    have HR : Hid (Ac.prt s = none) := Lib.hid hE
    have h1 := fun W => acnumR_any (Ur.cutA 45 s) 5 65535 W (by omega) (by omega)
    have HS := Lib.hid hs
    generalize Ac.prt s = R at *
    generalize numI (Ac.num (Ur.cutA 45 s) 5 65535) = x at *
    clear hE hc hc2 hs
    go_enter Tryz.func42, Tryz.ntmps42
    go_wp2_with fail
    refine hC.mono ?_
    rintro e w1 ⟨A, n, c, rfl, hS, hb⟩
    have hR := hS.rd
    clear hC hS
    have hn : 2 < n := by rw [← hR.1]; exact h2
    clear h2
    obtain ⟨g, o, p0, hA, hg, HX0, hc0⟩ := hR.at_ (k := 0) (by omega)
    have e0 : p0 = Ur.cutA 45 s := by have h1 := HX0.out; rw [HS.out] at h1; exact (Option.some.inj h1).symm
    subst hA
    subst e0
    rw [Nat.add_zero] at hc0
    have g2 : ((n : Int) == 2) = false := by rw [beq_eq_false_iff_ne]; omega
    clear HX0 HS hR
    go_wp2_with fail
    refine (h1 _).mono ?_
    rintro e w2 ⟨rfl, hw⟩
    subst hw
    go_wp2
    go_ret3
    exact ⟨⟨_, _, by rw [HR.out]; rfl, fun _ _ h => by rw [HR.out] at h; cases h⟩, hb⟩
theorem and_low24 (v : Nat) (hv : v < 4294967296) : bits .and .i64 (v : Int) 16777215 = ((v % 16777216 : Nat) : Int) := by
  have h := bits_mask .i64 63 (by decide) (fun n h0 h1 => by rw [IntKind.wrap_i64]; omega) 24 (by decide) (v : Int) (by omega) (by omega)
  rw [show ((2 : Int) ^ 24) = 16777216 by decide] at h
  have e : ((v % 16777216 : Nat) : Int) = (v : Int) % 16777216 := by omega
  rw [e, ← h]; rfl
set_option maxHeartbeats 4000000 in
theorem rnetwork_any (s : List UInt8) (w : World) (hl : s.length ≤ 4194304) :
    Calls Tryz.prog 41 #[.string (bs s)] w fun e w' => TwoOut (Ac.net s) w e w' := by
  have hC := rcut_any s 47 w (by omega)
  have hlen := cut_len 47 s
  unfold TwoOut
  rcases Ac.split_ways 47 s with ⟨hc, hs⟩ | ⟨hc, hc2, hs⟩ | ⟨hc, hc2, h2, hs⟩
  · have hE : Ac.net s = Ac.netB s 32 := (Ac.net_ways s).1 hc
    have h2 := fun W => acnumR_any (Ur.cutB 47 s) 2 32 W (by omega) (by omega)
    have hcx := fun W => rcut_any s 46 W (by omega)
    have hnl : (Ur.splitc 47 s).length = 1 := by rw [hs]; rfl
    have HS := Lib.hid hs
    have HSL : Hid (∀ p ∈ Ur.splitc 46 s, p.length ≤ 4194304) := Lib.hid fun p hp => by have := Ac.split_mem_len 46 s p hp; omega
    have hpnl : (Ur.splitc 46 s).length ≤ 4194305 := by rw [Ur.splitc_len]; have := List.count_le_length (a := (46 : UInt8)) (l := s); omega
    have HGOOD : Hid (∀ v, Ac.octK (Ur.splitc 46 s) (Ur.splitc 46 s).length v → Ac.net s = if 0 ≤ (32 : Int) ∧ (Ur.splitc 46 s).length = 4 then some (v, (32 : Int).toNat) else none) := Lib.hid fun v h => by rw [hE]; exact Ac.netB_good rfl h
    have HBAD : Hid (∀ p k, (Ur.splitc 46 s)[k]? = some p → Ac.num p 3 255 = none → Ac.net s = none) := Lib.hid fun p k h1 h2 => by rw [hE]; exact Ac.netB_bad rfl h1 h2
    generalize Ac.net s = R at *
    clear hE hc hs
    generalize Ur.splitc 46 s = PS at *
    go_enter Tryz.func41, Tryz.ntmps41
    go_wp2_with fail
    refine hC.mono ?_
    rintro e w1 ⟨A, n, c, rfl, hS, hb⟩
    have hR := hS.rd
    clear hC hS
    have hn : n = 1 := by rw [← hR.1]; exact hnl
    subst hn
    obtain ⟨g, o, p0, hA, hg, HX0, hc0⟩ := hR.at_ (k := 0) (by omega)
    have e0 : p0 = s := by have h1 := HX0.out; rw [HS.out] at h1; exact (Option.some.inj h1).symm
    subst hA
    subst e0
    rw [Nat.add_zero] at hc0
    clear HX0 HS hR hnl
    go_wp2_with fail
    refine (hcx _).mono ?_
    rintro e w2 ⟨Q, n, cq, rfl, hS, hb2⟩
    have hR := hS.rd
    have hbw := bnext hb hb2 hb.size
    clear hS hcx hb hb2 hc0 h2
    have hPN : PS.length = n := hR.1
    rw [hPN] at hpnl
    rw [hPN] at HGOOD
    clear hPN
    go_wp2
    go_loopw [8, 9] (fun u t wr => ∃ k v : Nat, k ≤ n ∧ t = .int .i64 (k : Int) ∧ u = .int .i64 (v : Int) ∧ Hid (Ac.octK PS k v) ∧ Below w.heap.size w wr ∧ Below w2.heap.size w2 wr) (fun _ t _ => n - (intOf t).toNat)
    case atStart => exact ⟨0, 0, by omega, rfl, rfl, Lib.hid (Ac.octK_zero _), hbw, Below.refl _ _⟩
    case round =>
      obtain ⟨k, v, hk, rfl, rfl, HO, hbr, hbr2⟩ := hrel
      by_cases hlt : k < n
      · obtain ⟨g9, o9, p, rfl, hg9, HX, hc9⟩ := (hR.step hbr2).at_ hlt
        have hpl := HSL.out p (mem_of_get? HX.out)
        have h3 := fun W => acnumR_any p 3 255 W (by omega) (by omega)
        cases hn : Ac.num p 3 255 with
        | none =>
          rw [Ac.numI_none hn] at h3
          have HR := Lib.hid (HBAD.out p k HX.out hn)
          clear hn HBAD HGOOD HO HX
          go_wp2_with fail
          refine (h3 _).mono ?_
          rintro e w3 ⟨rfl, hw⟩
          subst hw
          go_wp2
          go_ret3
          exact ⟨⟨_, _, by rw [HR.out]; rfl, fun _ _ h => by rw [HR.out] at h; cases h⟩, hbr⟩
        | some m =>
          have HO2 := Lib.hid (Ac.octK_succ HO.out HX.out hn)
          have hv := Ac.octK_lt HO.out
          have hn2 := (Ac.num_yes (by omega) hn).2.2.2.1
          have h3b := h3
          rw [show numI (Ac.num p 3 255) = (m : Int) from by rw [hn]; rfl] at h3b
          have HAND := Lib.hid (and_low24 v hv)
          have hand := HAND.out
          clear hn HBAD HGOOD HX HO h3
          go_wp2_with fail
          refine (h3b _).mono ?_
          rintro e w3 ⟨rfl, hw⟩
          subst hw
          go_wp2
          go_roundw
          case rel => exact ⟨k + 1, v % 16777216 * 256 + m, by omega, by go_num, by go_num, HO2, hbr, hbr2⟩
          case measure => simp [intOf]; omega
      · obtain rfl : k = n := by omega
        have hv := Ac.octK_lt HO.out
        have HG := Lib.hid (HGOOD.out v HO.out)
        clear HBAD HGOOD HO
        by_cases h4 : k = 4
        · subst h4
          have HR : Hid (R = some (v, 32)) := Lib.hid (by rw [HG.out, if_pos ⟨by omega, rfl⟩]; rfl)
          clear HG
          go_wp2
          go_ret3
          exact ⟨⟨_, _, by rw [HR.out]; rfl, fun _ _ h => by rw [HR.out] at h; cases h; exact ⟨rfl, rfl⟩⟩, hbr⟩
        · have HR : Hid (R = none) := Lib.hid (by rw [HG.out, if_neg (fun h => h4 h.2)])
          have g4 : ((k : Int) == 4) = false := by rw [beq_eq_false_iff_ne]; omega
          clear HG
          go_wp2
          go_ret3
          exact ⟨⟨_, _, by rw [HR.out]; rfl, fun _ _ h => by rw [HR.out] at h; cases h⟩, hbr⟩
  · have hE : Ac.net s = Ac.netB (Ur.cutA 47 s) (numI (Ac.num (Ur.cutB 47 s) 2 32)) := (Ac.net_ways s).2 hc
    have h2 := fun W => acnumR_any (Ur.cutB 47 s) 2 32 W (by omega) (by omega)
    have hcx := fun W => rcut_any (Ur.cutA 47 s) 46 W (by omega)
    have hnl : (Ur.splitc 47 s).length = 2 := by rw [hs]; rfl
    have HS := Lib.hid hs
    generalize numI (Ac.num (Ur.cutB 47 s) 2 32) = bb at *
    have HSL : Hid (∀ p ∈ Ur.splitc 46 (Ur.cutA 47 s), p.length ≤ 4194304) := Lib.hid fun p hp => by have := Ac.split_mem_len 46 (Ur.cutA 47 s) p hp; omega
    have hpnl : (Ur.splitc 46 (Ur.cutA 47 s)).length ≤ 4194305 := by rw [Ur.splitc_len]; have := List.count_le_length (a := (46 : UInt8)) (l := (Ur.cutA 47 s)); omega
    have HGOOD : Hid (∀ v, Ac.octK (Ur.splitc 46 (Ur.cutA 47 s)) (Ur.splitc 46 (Ur.cutA 47 s)).length v → Ac.net s = if 0 ≤ (bb : Int) ∧ (Ur.splitc 46 (Ur.cutA 47 s)).length = 4 then some (v, (bb : Int).toNat) else none) := Lib.hid fun v h => by rw [hE]; exact Ac.netB_good rfl h
    have HBAD : Hid (∀ p k, (Ur.splitc 46 (Ur.cutA 47 s))[k]? = some p → Ac.num p 3 255 = none → Ac.net s = none) := Lib.hid fun p k h1 h2 => by rw [hE]; exact Ac.netB_bad rfl h1 h2
    generalize Ac.net s = R at *
    clear hE hc hs
    generalize Ur.splitc 46 (Ur.cutA 47 s) = PS at *
    go_enter Tryz.func41, Tryz.ntmps41
    go_wp2_with fail
    refine hC.mono ?_
    rintro e w1 ⟨A, n, c, rfl, hS, hb⟩
    have hR := hS.rd
    clear hC hS
    have hn : n = 2 := by rw [← hR.1]; exact hnl
    subst hn
    obtain ⟨g, o, p0, hA, hg, HX0, hc0⟩ := hR.at_ (k := 0) (by omega)
    have e0 : p0 = (Ur.cutA 47 s) := by have h1 := HX0.out; rw [HS.out] at h1; exact (Option.some.inj h1).symm
    subst hA
    subst e0
    rw [Nat.add_zero] at hc0
    obtain ⟨g', o', p1, hA, hg', HX1, hc1⟩ := hR.at_ (k := 1) (by omega)
    injection hA with hA
    injection hA with hA1 hA2
    subst hA1 hA2
    have e1 : p1 = Ur.cutB 47 s := by have h1 := HX1.out; rw [HS.out] at h1; exact (Option.some.inj h1).symm
    subst e1
    clear HX1
    clear HX0 HS hR hnl
    go_wp2_with fail
    refine (h2 _).mono ?_
    rintro e w2 ⟨rfl, hw⟩
    subst hw
    go_wp2_with fail
    refine (hcx _).mono ?_
    rintro e w2 ⟨Q, n, cq, rfl, hS, hb2⟩
    have hR := hS.rd
    have hbw := bnext hb hb2 hb.size
    clear hS hcx hb hb2 hc0 h2
    have hPN : PS.length = n := hR.1
    rw [hPN] at hpnl
    rw [hPN] at HGOOD
    clear hPN
    clear hc1
    go_wp2
    go_loopw [8, 9] (fun u t wr => ∃ k v : Nat, k ≤ n ∧ t = .int .i64 (k : Int) ∧ u = .int .i64 (v : Int) ∧ Hid (Ac.octK PS k v) ∧ Below w.heap.size w wr ∧ Below w2.heap.size w2 wr) (fun _ t _ => n - (intOf t).toNat)
    case atStart => exact ⟨0, 0, by omega, rfl, rfl, Lib.hid (Ac.octK_zero _), hbw, Below.refl _ _⟩
    case round =>
      obtain ⟨k, v, hk, rfl, rfl, HO, hbr, hbr2⟩ := hrel
      by_cases hlt : k < n
      · obtain ⟨g9, o9, p, rfl, hg9, HX, hc9⟩ := (hR.step hbr2).at_ hlt
        have hpl := HSL.out p (mem_of_get? HX.out)
        have h3 := fun W => acnumR_any p 3 255 W (by omega) (by omega)
        cases hn : Ac.num p 3 255 with
        | none =>
          rw [Ac.numI_none hn] at h3
          have HR := Lib.hid (HBAD.out p k HX.out hn)
          clear hn HBAD HGOOD HO HX
          go_wp2_with fail
          refine (h3 _).mono ?_
          rintro e w3 ⟨rfl, hw⟩
          subst hw
          go_wp2
          go_ret3
          exact ⟨⟨_, _, by rw [HR.out]; rfl, fun _ _ h => by rw [HR.out] at h; cases h⟩, hbr⟩
        | some m =>
          have HO2 := Lib.hid (Ac.octK_succ HO.out HX.out hn)
          have hv := Ac.octK_lt HO.out
          have hn2 := (Ac.num_yes (by omega) hn).2.2.2.1
          have h3b := h3
          rw [show numI (Ac.num p 3 255) = (m : Int) from by rw [hn]; rfl] at h3b
          have HAND := Lib.hid (and_low24 v hv)
          have hand := HAND.out
          clear hn HBAD HGOOD HX HO h3
          go_wp2_with fail
          refine (h3b _).mono ?_
          rintro e w3 ⟨rfl, hw⟩
          subst hw
          go_wp2
          go_roundw
          case rel => exact ⟨k + 1, v % 16777216 * 256 + m, by omega, by go_num, by go_num, HO2, hbr, hbr2⟩
          case measure => simp [intOf]; omega
      · obtain rfl : k = n := by omega
        have hv := Ac.octK_lt HO.out
        have HG := Lib.hid (HGOOD.out v HO.out)
        clear HBAD HGOOD HO
        by_cases h4 : k = 4
        · subst h4
          by_cases hb0 : 0 ≤ bb
          · have HR : Hid (R = some (v, bb.toNat)) := Lib.hid (by rw [HG.out, if_pos ⟨hb0, rfl⟩])
            have hbt : Hid ((bb.toNat : Int) = bb) := Lib.hid (by omega)
            clear HG
            go_wp2
            go_ret3
            exact ⟨⟨_, _, by rw [HR.out]; rfl, fun _ _ h => by rw [HR.out] at h; cases h; exact ⟨rfl, hbt.out.symm⟩⟩, hbr⟩
          · have HR : Hid (R = none) := Lib.hid (by rw [HG.out, if_neg (fun h => hb0 h.1)])
            clear HG
            go_wp2
            go_ret3
            exact ⟨⟨_, _, by rw [HR.out]; rfl, fun _ _ h => by rw [HR.out] at h; cases h⟩, hbr⟩
        · have HR : Hid (R = none) := Lib.hid (by rw [HG.out, if_neg (fun h => h4 h.2)])
          have g4 : ((k : Int) == 4) = false := by rw [beq_eq_false_iff_ne]; omega
          clear HG
          by_cases hb0 : 0 ≤ bb
          all_goals
            go_wp2
            go_ret3
            exact ⟨⟨_, _, by rw [HR.out]; rfl, fun _ _ h => by rw [HR.out] at h; cases h⟩, hbr⟩
  · have HR : Hid (Ac.net s = none) := Lib.hid (by
      unfold Ac.net; rw [hc, if_pos rfl, Ac.num_has (by omega) (by decide) hc2])
    generalize Ac.net s = R at *
    clear hc hc2 hs
    go_enter Tryz.func41, Tryz.ntmps41
    go_wp2_with fail
    refine hC.mono ?_
    rintro e w1 ⟨A, n, c, rfl, hS, hb⟩
    have hR := hS.rd
    clear hC hS
    have hn : 2 < n := by rw [← hR.1]; exact h2
    clear h2 hR
    go_wp2
    go_ret3
    exact ⟨⟨_, _, by rw [HR.out]; rfl, fun _ _ h => by rw [HR.out] at h; cases h⟩, hb⟩
end Go.Proofs.YtgkphjbcaidcpaaGreatDoor
set_option linter.unusedVariables false
set_option linter.unusedSimpArgs false
namespace Go.Proofs.YtgkphjbcaidcpaaGreatDoor
open Go.RowKit

set_option maxRecDepth 100000
theorem bool_info : (Tryz.prog.info? 4).map (fun i => (i.zero, i.size, i.bytes)) = some (some (.bool false), 1, 1) := by kernel_rfl
namespace Ac
theorem take_len_snoc {s : T} {i : Nat} (h : i < s.length) : s.take (i + 1) = s.take i ++ [s[i]] := take_snoc s i h
theorem gT_zero (s : T) : gm [] (s.take 0) = true := by simp [gm_nil]
theorem gT_zeroS {s : T} {i : Nat} (h : i < s.length) : gm [] (s.take (i + 1)) = false := by rw [gm_nil, take_len_snoc h]; cases s.take i <;> rfl
theorem gT_star0 {p s : T} {k : Nat} (h : p[k]? = some 42) : gm (p.take (k + 1)) (s.take 0) = gm (p.take k) (s.take 0) := by rw [take_snoc? h, List.take_zero]; exact gm_snoc_star0 _
theorem gT_star {p s : T} {k i : Nat} (h : p[k]? = some 42) (hi : i < s.length) : gm (p.take (k + 1)) (s.take (i + 1)) = (gm (p.take k) (s.take (i + 1)) || gm (p.take (k + 1)) (s.take i)) := by rw [take_snoc? h, take_len_snoc hi]; exact gm_snoc_star _ _ _
theorem gT_ch0 {p s : T} {k : Nat} {c : UInt8} (h : p[k]? = some c) (hc : c ≠ 42) : gm (p.take (k + 1)) (s.take 0) = false := by rw [take_snoc? h, List.take_zero]; exact gm_snoc_ch0 _ hc
theorem gT_ch {p s : T} {k i : Nat} {c : UInt8} (h : p[k]? = some c) (hc : c ≠ 42) (hi : i < s.length) : gm (p.take (k + 1)) (s.take (i + 1)) = (c == s[i] && gm (p.take k) (s.take i)) := by rw [take_snoc? h, take_len_snoc hi]; exact gm_snoc_ch _ _ hc _
end Ac
set_option maxHeartbeats 4000000 in
theorem rglob_any (p s : List UInt8) (w : World) (hp : p.length ≤ 4194304) (hs : s.length ≤ 4194304) :
    Calls Tryz.prog 44 #[.string (bs p), .string (bs s)] w fun e w' => e = .returned (.bool (Ac.gm p s)) ∧ Below w.heap.size w w' := by
  have hmk0 := run_make_row' (P := Tryz.prog) 103 4 (.bool false) 1 Tryz.underlying103 bool_info rfl .i64 .i64 (s.length + 1) (by omega) (by omega)
  have hmk : ∀ W : World, (Instr.makeSlice 103 (.int .i64 ((s.length : Int) + 1)) (.int .i64 ((s.length : Int) + 1))).run Tryz.prog W = .ok (.slice (some ⟨W.heap.size, 0, none⟩) (s.length + 1) (s.length + 1)) (W.alloc (.cells (madeCells #[.bool false] (s.length + 1)) 4)) := fun W => by
    have := hmk0 W; rwa [show ((s.length + 1 : Nat) : Int) = (s.length : Int) + 1 by omega] at this
  clear hmk0
  have HE : Hid (Ac.gm p s = Ac.gm (p.take p.length) (s.take s.length)) := Lib.hid (by rw [List.take_length, List.take_length])
  generalize Ac.gm p s = R at *
  have H00 : Hid (Ac.gm (p.take 0) (s.take 0) = true) := Lib.hid (Ac.gT_zero s)
  have H0S : Hid (∀ i, i < s.length → Ac.gm (p.take 0) (s.take (i + 1)) = false) := Lib.hid fun i h => Ac.gT_zeroS h
  have HS0 := Lib.hid fun k (h : p[k]? = some 42) => Ac.gT_star0 (s := s) h
  have HSS := Lib.hid fun k i (h : p[k]? = some 42) (hi : i < s.length) => Ac.gT_star h hi
  have HC0 := Lib.hid fun k c (h : p[k]? = some c) (hc : c ≠ 42) => Ac.gT_ch0 (s := s) h hc
  have HCS := Lib.hid fun k i c (h : p[k]? = some c) (hc : c ≠ 42) (hi : i < s.length) => Ac.gT_ch h hc hi
  obtain ⟨G, HG⟩ : ∃ G : Nat → Nat → Bool, Hid (∀ k i, Ac.gm (p.take k) (s.take i) = G k i) := ⟨fun k i => Ac.gm (p.take k) (s.take i), Lib.hid fun _ _ => rfl⟩
  have HRow0 := World.rowIs_made w (.bool false) (s.length + 1) 4
  have hal := alloc_below w (.cells (madeCells #[.bool false] (s.length + 1)) 4)
  go_enter Tryz.func44, Tryz.ntmps44
  go_upto_region 2 with fail
  generalize w.alloc (.cells (madeCells #[.bool false] (s.length + 1)) 4) = w1 at *
  have hc0 := HRow0.cell (i := 0) (by omega)
  have hf0 := HRow0.frozen 0
  have hsz := HRow0.lt
  have HRow1 : (w1.setCell ⟨w.heap.size, 0, none⟩ (.bool true)).rowIs w.heap.size 4 (s.length + 1) (fun i => .bool (G 0 i)) := by
    refine (HRow0.set 0 (.bool true)).congr fun i hi => ?_
    cases i with
    | zero => rw [if_pos rfl, ← HG.out, H00.out]
    | succ i => rw [if_neg (by omega), ← HG.out, H0S.out i (by omega)]
  have hb1 : Below w.heap.size w (w1.setCell ⟨w.heap.size, 0, none⟩ (.bool true)) := hal.setCell (Nat.le_refl _) _
  clear HRow0 H00 H0S
  go_wp2
  generalize w1.setCell ⟨w.heap.size, 0, none⟩ (.bool true) = w2 at *
  go_loopw [5, 6] (fun v t wr => ∃ k b : Nat, k ≤ p.length ∧ t = .int .i64 (k : Int) ∧ v = .slice (some ⟨b, 0, none⟩) (s.length + 1) (s.length + 1) ∧ wr.rowIs b 4 (s.length + 1) (fun i => .bool (G k i)) ∧ Below w.heap.size w wr) (fun _ t _ => p.length - (intOf t).toNat)
  case atStart => exact ⟨0, _, by omega, rfl, rfl, HRow1, hb1⟩
  case round =>
    obtain ⟨k, b, hk, rfl, rfl, HRow, hbr⟩ := hrel
    clear HRow1 hb1 hc0 hf0 hal hsz
    by_cases hlt : k < p.length
    · have hX := List.getElem?_eq_getElem hlt
      have hbl := HRow.lt
      have HN0 := World.rowIs_made wr (.bool false) (s.length + 1) 4
      have HR0 := HRow.alloc (.cells (madeCells #[.bool false] (s.length + 1)) 4)
      have hal := bnext hbr (alloc_below wr (.cells (madeCells #[.bool false] (s.length + 1)) 4)) hbr.size
      go_upto_region 7 with fail
      generalize wr.alloc (.cells (madeCells #[.bool false] (s.length + 1)) 4) = w3 at *
      have hne : b ≠ wr.heap.size := by omega
      have hwb : w.heap.size ≤ wr.heap.size := hbr.size
      generalize wr.heap.size = nb at *
      clear HRow hbl
      go_wp2
      go_loopw [8] (fun t wr => ∃ i : Nat, i ≤ s.length + 1 ∧ t = .int .i64 (i : Int) ∧ wr.rowIs b 4 (s.length + 1) (fun i => .bool (G k i)) ∧ wr.rowIs nb 4 (s.length + 1) (fun j => .bool (if j < i then G (k + 1) j else false)) ∧ Below w.heap.size w wr) (fun t _ => s.length + 1 - (intOf t).toNat)
      case atStart => exact ⟨0, by omega, rfl, HR0, HN0.congr (fun i hi => by rw [if_neg (by omega)]), hal⟩
      case round =>
        obtain ⟨i, hi, rfl, hA, hN, hbi⟩ := hrel
        clear HR0 HN0 hal hbr
        by_cases hle : i < s.length + 1
        · have hfN := hN.frozen i
          have hcN := hN.cell (i := i) hle
          rw [if_neg (by omega)] at hcN
          have hcA := hA.cell (i := i) hle
          have fin : ∀ v : Bool, v = G (k + 1) i → (wr.setCell ⟨nb, i, none⟩ (.bool v)).rowIs b 4 (s.length + 1) (fun i => .bool (G k i)) ∧ (wr.setCell ⟨nb, i, none⟩ (.bool v)).rowIs nb 4 (s.length + 1) (fun j => .bool (if j < i + 1 then G (k + 1) j else false)) ∧ Below w.heap.size w (wr.setCell ⟨nb, i, none⟩ (.bool v)) := fun v hv => by
            refine ⟨hA.setOther hne _, (hN.set i (.bool v)).congr fun j hj => ?_, hbi.setCell hwb _⟩
            by_cases e : j = i
            · subst e; rw [if_pos rfl, if_pos (by omega), hv]
            · rw [if_neg e]
              by_cases e2 : j < i
              · rw [if_pos e2, if_pos (by omega)]
              · rw [if_neg e2, if_neg (by omega)]
          have FIN := Lib.hid fin
          clear fin
          by_cases h42 : p[k] = 42
          · have e42 := u8eqk h42 42 rfl
            have hX42 : p[k]? = some 42 := by rw [hX, h42]
            rcases i with _ | i
            · have HV : Hid (G k 0 = G (k + 1) 0) := Lib.hid (by rw [← HG.out, ← HG.out, HS0.out k hX42])
              clear HG HS0 HSS HC0 HCS HE hX hX42 h42
              generalize hv : G k 0 = v at *
              cases v with
              | true => 
                go_wp2
                go_roundw
                case rel => exact ⟨0 + 1, by omega, by go_num, FIN.out _ HV.out⟩
                case measure => simp [intOf] <;> omega
              | false =>
                go_wp2
                go_roundw
                case rel => exact ⟨0 + 1, by omega, by go_num, FIN.out _ HV.out⟩
                case measure => simp [intOf] <;> omega
            · have HV : Hid ((G k (i + 1) || G (k + 1) i) = G (k + 1) (i + 1)) := Lib.hid (by rw [← HG.out, ← HG.out, ← HG.out, HSS.out k i hX42 (by omega)])
              have hcP := hN.cell (i := i) (by omega)
              rw [if_pos (by omega)] at hcP
              clear HG HS0 HSS HC0 HCS HE hX hX42 h42
              generalize hv : G k (i + 1) = v at *
              generalize hv2 : G (k + 1) i = v2 at *
              cases v with
              | true => 
                go_wp2
                go_roundw
                case rel => exact ⟨i + 1 + 1, by omega, by go_num, FIN.out _ HV.out⟩
                case measure => simp [intOf] <;> omega
              | false =>
                go_wp2
                go_roundw
                case rel => exact ⟨i + 1 + 1, by omega, by go_num, FIN.out _ HV.out⟩
                case measure => simp [intOf] <;> omega
          · have e42 := u8nek h42 42 rfl
            rcases i with _ | i
            · have HV : Hid (false = G (k + 1) 0) := Lib.hid (by rw [← HG.out, HC0.out k _ hX h42])
              clear HG HS0 HSS HC0 HCS HE hX h42
              go_wp2
              go_region
              go_wp2
              go_roundw
              case rel => exact ⟨0 + 1, by omega, by go_num, (FIN.out _ HV.out).1.drew, (FIN.out _ HV.out).2.1.drew, below_drewN (FIN.out _ HV.out).2.2 1⟩
              case measure => simp [intOf] <;> omega
            · have hilt : i < s.length := by omega
              have hcP := hA.cell (i := i) (by omega)
              by_cases he : s[i] = p[k]
              · have HV : Hid (G k i = G (k + 1) (i + 1)) := Lib.hid (by rw [← HG.out, ← HG.out, HCS.out k i _ hX h42 hilt, he]; simp)
                have e1 : ((s[i].toNat : Int) == (p[k].toNat : Int)) = true := by rw [he]; simp
                clear HG HS0 HSS HC0 HCS HE hX h42 he hcA
                generalize hv : G k i = v at *
                cases v with
                | true =>
                  go_wp2
                  go_region
                  go_wp2
                  go_roundw
                  case rel => exact ⟨i + 1 + 1, by omega, by go_num, (FIN.out _ HV.out).1.drew, (FIN.out _ HV.out).2.1.drew, below_drewN (FIN.out _ HV.out).2.2 1⟩
                  case measure => simp [intOf] <;> omega
                | false =>
                  go_wp2
                  go_region
                  go_wp2
                  go_roundw
                  case rel => exact ⟨i + 1 + 1, by omega, by go_num, (FIN.out _ HV.out).1.drew, (FIN.out _ HV.out).2.1.drew, below_drewN (FIN.out _ HV.out).2.2 1⟩
                  case measure => simp [intOf] <;> omega
              · have HV : Hid (false = G (k + 1) (i + 1)) := Lib.hid (by rw [← HG.out, HCS.out k i _ hX h42 hilt, beq_eq_false_iff_ne.2 (Ne.symm he)]; rfl)
                have e1 : ((s[i].toNat : Int) == (p[k].toNat : Int)) = false := u8ne he
                clear HG HS0 HSS HC0 HCS HE hX h42 he hcA
                generalize hv : G k i = v at *
                cases v with
                | true =>
                  go_wp2
                  go_region
                  go_wp2
                  go_roundw
                  case rel => exact ⟨i + 1 + 1, by omega, by go_num, (FIN.out _ HV.out).1.drew, (FIN.out _ HV.out).2.1.drew, below_drewN (FIN.out _ HV.out).2.2 1⟩
                  case measure => simp [intOf] <;> omega
                | false =>
                  go_wp2
                  go_region
                  go_wp2
                  go_roundw
                  case rel => exact ⟨i + 1 + 1, by omega, by go_num, (FIN.out _ HV.out).1.drew, (FIN.out _ HV.out).2.1.drew, below_drewN (FIN.out _ HV.out).2.2 1⟩
                  case measure => simp [intOf] <;> omega
        · obtain rfl : i = s.length + 1 := by omega
          have hN2 : wr.rowIs nb 4 (s.length + 1) (fun j => .bool (G (k + 1) j)) := hN.congr fun j hj => by rw [if_pos hj]
          clear hN
          go_wp2
          go_roundw
          case rel => exact ⟨k + 1, nb, by omega, by go_num, rfl, hN2, hbi⟩
          case measure => simp [intOf] <;> omega
    · obtain rfl : k = p.length := by omega
      have hc := HRow.cell (i := s.length) (by omega)
      have HF : Hid (R = G p.length s.length) := Lib.hid (by rw [HE.out, HG.out])
      go_wp2
      go_ret
      exact ⟨by rw [HF.out]; rfl, hbr⟩
end Go.Proofs.YtgkphjbcaidcpaaGreatDoor
