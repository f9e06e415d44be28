/- Joined texts: The values' parsers: hosts, ports, times; The values' parsers: ports, times. The conditions stand in each line. -/
import Derived.Test.YtgkphjbcaidcpaaGreatDoorM6
set_option linter.unusedVariables false
set_option linter.unusedSimpArgs false
namespace Go.Proofs.YtgkphjbcaidcpaaGreatDoor
open Go.RowKit

set_option maxRecDepth 100000
/-- A value as the program keeps it. -/
def repV (k v : List UInt8) : Value :=
  if k = Ac.srcT then (match Ac.net v with | some (n, b) => .iface 110 (.agg #[.int .u32 (n : Int), .int .u32 (Ac.mask b : Int)]) | none => .nilIface)
  else if k = Ac.hostT then (if (fold v).head? = some 46 then .iface 111 (.string (bs (fold v))) else .iface 112 (.string (bs (fold v))))
  else if k = Ac.portT then (match Ac.prt v with | some (x, y) => .iface 114 (.agg #[.int .i64 (x : Int), .int .i64 (y : Int)]) | none => .nilIface)
  else if k = Ac.methT then .iface 100 (.string (bs v))
  else if k = Ac.pathT then .iface 101 (.string (bs v))
  else (match Ac.win v with | some (x, y) => .iface 116 (.agg #[.int .i64 (x : Int), .int .i64 (y : Int)]) | none => .nilIface)
def PaOut (k v : List UInt8) (w : World) (e : Ending) (w' : World) : Prop := (∃ u, e = .returned (.tuple #[u, .bool (Ac.good k v)]) ∧ (Ac.good k v = true → u = repV k v)) ∧ Below w.heap.size w w'
theorem Ac.good_src (v : List UInt8) : Ac.good Ac.srcT v = (Ac.net v).isSome := rfl
theorem Ac.good_host (v : List UInt8) : Ac.good Ac.hostT v = v.all Ac.hostB := rfl
theorem Ac.good_port (v : List UInt8) : Ac.good Ac.portT v = (Ac.prt v).isSome := rfl
theorem Ac.good_meth (v : List UInt8) : Ac.good Ac.methT v = Ac.tok v := rfl
theorem Ac.good_path (v : List UInt8) : Ac.good Ac.pathT v = true := rfl
theorem Ac.good_time (v : List UInt8) : Ac.good Ac.timeT v = (Ac.win v).isSome := rfl
theorem repV_src {v : List UInt8} {n b : Nat} (h : Ac.net v = some (n, b)) : repV Ac.srcT v = .iface 110 (.agg #[.int .u32 (n : Int), .int .u32 (Ac.mask b : Int)]) := by
  unfold repV; rw [if_pos rfl, h]
theorem repV_port {v : List UInt8} {n b : Nat} (h : Ac.prt v = some (n, b)) : repV Ac.portT v = .iface 114 (.agg #[.int .i64 (n : Int), .int .i64 (b : Int)]) := by
  unfold repV; rw [if_neg (by decide), if_neg (by decide), if_pos rfl, h]
theorem repV_time {v : List UInt8} {n b : Nat} (h : Ac.win v = some (n, b)) : repV Ac.timeT v = .iface 116 (.agg #[.int .i64 (n : Int), .int .i64 (b : Int)]) := by
  unfold repV; rw [if_neg (by decide), if_neg (by decide), if_neg (by decide), if_neg (by decide), if_neg (by decide), h]
theorem repV_suf {v : List UInt8} (h : (fold v).head? = some 46) : repV Ac.hostT v = .iface 111 (.string (bs (fold v))) := by
  unfold repV; rw [if_neg (by decide), if_pos rfl, if_pos h]
theorem repV_ex {v : List UInt8} (h : (fold v).head? ≠ some 46) : repV Ac.hostT v = .iface 112 (.string (bs (fold v))) := by
  unfold repV; rw [if_neg (by decide), if_pos rfl, if_neg h]
theorem head_fold {v : List UInt8} (h : 0 < v.length) : ((fold v).head? = some 46) ↔ v[0].toNat = 46 := by
  cases v with
  | nil => simp at h
  | cons c r =>
    show some (low c) = some 46 ↔ c.toNat = 46
    rw [Option.some.injEq]
    constructor
    · intro e
      by_cases hc : 65 ≤ c.toNat ∧ c.toNat ≤ 90
      · have := low_yes hc.1 hc.2; rw [e] at this; have h46 : (46 : UInt8).toNat = 46 := rfl; omega
      · rw [low_no hc] at e; rw [e]; rfl
    · intro e
      rw [low_no (by omega)]; exact UInt8.toNat_inj.1 (by rw [e]; rfl)
set_option maxHeartbeats 2000000 in
theorem parseHost_any (v : List UInt8) (w : World) (hv : 1 ≤ v.length) (hl : v.length ≤ 4194304) :
    Calls Tryz.prog 51 #[.string (bs v)] w fun e w' => PaOut Ac.hostT v w e w' := by
  have hf := fun W => fold_any v W (by omega)
  have h0 : 0 < v.length := hv
  have HS := Lib.hid (fun (h : (v[0]'h0).toNat = 46) => repV_suf (v := v) ((head_fold h0).2 h))
  have HE := Lib.hid (fun (h : (v[0]'h0).toNat ≠ 46) => repV_ex (v := v) (fun h2 => h ((head_fold h0).1 h2)))
  have HG : Hid (∀ k (h : k < v.length), Ac.hostB v[k] = false → Ac.good Ac.hostT v = false) := Lib.hid fun k h hb => all_stop Ac.hostB v k h hb
  have HA : Hid ((v.take v.length).all Ac.hostB = true → Ac.good Ac.hostT v = true) := Lib.hid fun h => all_full Ac.hostB v h
  unfold PaOut
  generalize repV Ac.hostT v = RV at *
  generalize Ac.good Ac.hostT v = GV at *
  generalize fold v = F at *
  go_enter Tryz.func51, Tryz.ntmps51
  go_wp2
  go_loop [8] (fun t => ∃ k : Nat, k ≤ v.length ∧ t = .int .i64 (k : Int) ∧ Hid ((v.take k).all Ac.hostB = true)) (fun t => v.length - (intOf t).toNat)
  case atStart => exact ⟨0, by omega, rfl, Lib.hid rfl⟩
  case round =>
    obtain ⟨k, hk, rfl, HT⟩ := hrel
    by_cases hlt : k < v.length
    · have hc255 : (v[k].toNat : Int) ≤ 255 := by have := v[k].toNat_lt; omega
      have hcl : (0 ≤ (v[k].toNat : Int) ∧ (v[k].toNat : Int) ≤ 44) ∨ (45 ≤ (v[k].toNat : Int) ∧ (v[k].toNat : Int) ≤ 45) ∨ (46 ≤ (v[k].toNat : Int) ∧ (v[k].toNat : Int) ≤ 46) ∨ (47 ≤ (v[k].toNat : Int) ∧ (v[k].toNat : Int) ≤ 47) ∨ (48 ≤ (v[k].toNat : Int) ∧ (v[k].toNat : Int) ≤ 57) ∨ (58 ≤ (v[k].toNat : Int) ∧ (v[k].toNat : Int) ≤ 64) ∨ (65 ≤ (v[k].toNat : Int) ∧ (v[k].toNat : Int) ≤ 90) ∨ (91 ≤ (v[k].toNat : Int) ∧ (v[k].toNat : Int) ≤ 96) ∨ (97 ≤ (v[k].toNat : Int) ∧ (v[k].toNat : Int) ≤ 122) ∨ (123 ≤ (v[k].toNat : Int) ∧ (v[k].toNat : Int) ≤ 255) := by omega
      rcases hcl with hq | hq | hq | hq | hq | hq | hq | hq | hq | hq
      · have q0 : ¬ ((48 : Int) ≤ (v[k].toNat : Int)) := by omega
        have q1 : (v[k].toNat : Int) ≤ 57 := by omega
        have q2 : ¬ ((97 : Int) ≤ (v[k].toNat : Int)) := by omega
        have q3 : (v[k].toNat : Int) ≤ 122 := by omega
        have q4 : ¬ ((65 : Int) ≤ (v[k].toNat : Int)) := by omega
        have q5 : (v[k].toNat : Int) ≤ 90 := by omega
        have q6 : ((v[k].toNat : Int) == 45) = false := by rw [beq_eq_false_iff_ne]; omega
        have q7 : ((v[k].toNat : Int) == 46) = false := by rw [beq_eq_false_iff_ne]; omega
        have HB9 : Hid (Ac.hostB v[k] = false) := Lib.hid (decide_eq_false (by omega))
        have HN := Lib.hid (HG.out k hlt HB9.out)
        clear HG HA HS HE hf HT hq HB9
        go_wp2
        go_ret2
        rw [HN.out]; exact ⟨⟨_, rfl, fun h => by cases h⟩, Below.refl _ _⟩
      · have q0 : ¬ ((48 : Int) ≤ (v[k].toNat : Int)) := by omega
        have q1 : (v[k].toNat : Int) ≤ 57 := by omega
        have q2 : ¬ ((97 : Int) ≤ (v[k].toNat : Int)) := by omega
        have q3 : (v[k].toNat : Int) ≤ 122 := by omega
        have q4 : ¬ ((65 : Int) ≤ (v[k].toNat : Int)) := by omega
        have q5 : (v[k].toNat : Int) ≤ 90 := by omega
        have q6 : ((v[k].toNat : Int) == 45) = true := by rw [beq_iff_eq]; omega
        have q7 : ((v[k].toNat : Int) == 46) = false := by rw [beq_eq_false_iff_ne]; omega
        have HT2 : Hid ((v.take (k + 1)).all Ac.hostB = true) := Lib.hid (by rw [all_snoc Ac.hostB v k hlt, HT.out, show Ac.hostB v[k] = true from decide_eq_true (by omega)]; rfl)
        clear HG HA HS HE hf HT hq
        go_wp2
        go_round
        case rel => exact ⟨k + 1, by omega, by go_num, HT2⟩
        case measure => simp [intOf]; omega
      · have q0 : ¬ ((48 : Int) ≤ (v[k].toNat : Int)) := by omega
        have q1 : (v[k].toNat : Int) ≤ 57 := by omega
        have q2 : ¬ ((97 : Int) ≤ (v[k].toNat : Int)) := by omega
        have q3 : (v[k].toNat : Int) ≤ 122 := by omega
        have q4 : ¬ ((65 : Int) ≤ (v[k].toNat : Int)) := by omega
        have q5 : (v[k].toNat : Int) ≤ 90 := by omega
        have q6 : ((v[k].toNat : Int) == 45) = false := by rw [beq_eq_false_iff_ne]; omega
        have q7 : ((v[k].toNat : Int) == 46) = true := by rw [beq_iff_eq]; omega
        have HT2 : Hid ((v.take (k + 1)).all Ac.hostB = true) := Lib.hid (by rw [all_snoc Ac.hostB v k hlt, HT.out, show Ac.hostB v[k] = true from decide_eq_true (by omega)]; rfl)
        clear HG HA HS HE hf HT hq
        go_wp2
        go_round
        case rel => exact ⟨k + 1, by omega, by go_num, HT2⟩
        case measure => simp [intOf]; omega
      · have q0 : ¬ ((48 : Int) ≤ (v[k].toNat : Int)) := by omega
        have q1 : (v[k].toNat : Int) ≤ 57 := by omega
        have q2 : ¬ ((97 : Int) ≤ (v[k].toNat : Int)) := by omega
        have q3 : (v[k].toNat : Int) ≤ 122 := by omega
        have q4 : ¬ ((65 : Int) ≤ (v[k].toNat : Int)) := by omega
        have q5 : (v[k].toNat : Int) ≤ 90 := by omega
        have q6 : ((v[k].toNat : Int) == 45) = false := by rw [beq_eq_false_iff_ne]; omega
        have q7 : ((v[k].toNat : Int) == 46) = false := by rw [beq_eq_false_iff_ne]; omega
        have HB9 : Hid (Ac.hostB v[k] = false) := Lib.hid (decide_eq_false (by omega))
        have HN := Lib.hid (HG.out k hlt HB9.out)
        clear HG HA HS HE hf HT hq HB9
        go_wp2
        go_ret2
        rw [HN.out]; exact ⟨⟨_, rfl, fun h => by cases h⟩, Below.refl _ _⟩
      · have q0 : (48 : Int) ≤ (v[k].toNat : Int) := by omega
        have q1 : (v[k].toNat : Int) ≤ 57 := by omega
        have q2 : ¬ ((97 : Int) ≤ (v[k].toNat : Int)) := by omega
        have q3 : (v[k].toNat : Int) ≤ 122 := by omega
        have q4 : ¬ ((65 : Int) ≤ (v[k].toNat : Int)) := by omega
        have q5 : (v[k].toNat : Int) ≤ 90 := by omega
        have q6 : ((v[k].toNat : Int) == 45) = false := by rw [beq_eq_false_iff_ne]; omega
        have q7 : ((v[k].toNat : Int) == 46) = false := by rw [beq_eq_false_iff_ne]; omega
        have HT2 : Hid ((v.take (k + 1)).all Ac.hostB = true) := Lib.hid (by rw [all_snoc Ac.hostB v k hlt, HT.out, show Ac.hostB v[k] = true from decide_eq_true (by omega)]; rfl)
        clear HG HA HS HE hf HT hq
        go_wp2
        go_round
        case rel => exact ⟨k + 1, by omega, by go_num, HT2⟩
        case measure => simp [intOf]; omega
      · have q0 : (48 : Int) ≤ (v[k].toNat : Int) := by omega
        have q1 : ¬ ((v[k].toNat : Int) ≤ 57) := by omega
        have q2 : ¬ ((97 : Int) ≤ (v[k].toNat : Int)) := by omega
        have q3 : (v[k].toNat : Int) ≤ 122 := by omega
        have q4 : ¬ ((65 : Int) ≤ (v[k].toNat : Int)) := by omega
        have q5 : (v[k].toNat : Int) ≤ 90 := by omega
        have q6 : ((v[k].toNat : Int) == 45) = false := by rw [beq_eq_false_iff_ne]; omega
        have q7 : ((v[k].toNat : Int) == 46) = false := by rw [beq_eq_false_iff_ne]; omega
        have HB9 : Hid (Ac.hostB v[k] = false) := Lib.hid (decide_eq_false (by omega))
        have HN := Lib.hid (HG.out k hlt HB9.out)
        clear HG HA HS HE hf HT hq HB9
        go_wp2
        go_ret2
        rw [HN.out]; exact ⟨⟨_, rfl, fun h => by cases h⟩, Below.refl _ _⟩
      · have q0 : (48 : Int) ≤ (v[k].toNat : Int) := by omega
        have q1 : ¬ ((v[k].toNat : Int) ≤ 57) := by omega
        have q2 : ¬ ((97 : Int) ≤ (v[k].toNat : Int)) := by omega
        have q3 : (v[k].toNat : Int) ≤ 122 := by omega
        have q4 : (65 : Int) ≤ (v[k].toNat : Int) := by omega
        have q5 : (v[k].toNat : Int) ≤ 90 := by omega
        have q6 : ((v[k].toNat : Int) == 45) = false := by rw [beq_eq_false_iff_ne]; omega
        have q7 : ((v[k].toNat : Int) == 46) = false := by rw [beq_eq_false_iff_ne]; omega
        have HT2 : Hid ((v.take (k + 1)).all Ac.hostB = true) := Lib.hid (by rw [all_snoc Ac.hostB v k hlt, HT.out, show Ac.hostB v[k] = true from decide_eq_true (by omega)]; rfl)
        clear HG HA HS HE hf HT hq
        go_wp2
        go_round
        case rel => exact ⟨k + 1, by omega, by go_num, HT2⟩
        case measure => simp [intOf]; omega
      · have q0 : (48 : Int) ≤ (v[k].toNat : Int) := by omega
        have q1 : ¬ ((v[k].toNat : Int) ≤ 57) := by omega
        have q2 : ¬ ((97 : Int) ≤ (v[k].toNat : Int)) := by omega
        have q3 : (v[k].toNat : Int) ≤ 122 := by omega
        have q4 : (65 : Int) ≤ (v[k].toNat : Int) := by omega
        have q5 : ¬ ((v[k].toNat : Int) ≤ 90) := by omega
        have q6 : ((v[k].toNat : Int) == 45) = false := by rw [beq_eq_false_iff_ne]; omega
        have q7 : ((v[k].toNat : Int) == 46) = false := by rw [beq_eq_false_iff_ne]; omega
        have HB9 : Hid (Ac.hostB v[k] = false) := Lib.hid (decide_eq_false (by omega))
        have HN := Lib.hid (HG.out k hlt HB9.out)
        clear HG HA HS HE hf HT hq HB9
        go_wp2
        go_ret2
        rw [HN.out]; exact ⟨⟨_, rfl, fun h => by cases h⟩, Below.refl _ _⟩
      · have q0 : (48 : Int) ≤ (v[k].toNat : Int) := by omega
        have q1 : ¬ ((v[k].toNat : Int) ≤ 57) := by omega
        have q2 : (97 : Int) ≤ (v[k].toNat : Int) := by omega
        have q3 : (v[k].toNat : Int) ≤ 122 := by omega
        have q4 : (65 : Int) ≤ (v[k].toNat : Int) := by omega
        have q5 : ¬ ((v[k].toNat : Int) ≤ 90) := by omega
        have q6 : ((v[k].toNat : Int) == 45) = false := by rw [beq_eq_false_iff_ne]; omega
        have q7 : ((v[k].toNat : Int) == 46) = false := by rw [beq_eq_false_iff_ne]; omega
        have HT2 : Hid ((v.take (k + 1)).all Ac.hostB = true) := Lib.hid (by rw [all_snoc Ac.hostB v k hlt, HT.out, show Ac.hostB v[k] = true from decide_eq_true (by omega)]; rfl)
        clear HG HA HS HE hf HT hq
        go_wp2
        go_round
        case rel => exact ⟨k + 1, by omega, by go_num, HT2⟩
        case measure => simp [intOf]; omega
      · have q0 : (48 : Int) ≤ (v[k].toNat : Int) := by omega
        have q1 : ¬ ((v[k].toNat : Int) ≤ 57) := by omega
        have q2 : (97 : Int) ≤ (v[k].toNat : Int) := by omega
        have q3 : ¬ ((v[k].toNat : Int) ≤ 122) := by omega
        have q4 : (65 : Int) ≤ (v[k].toNat : Int) := by omega
        have q5 : ¬ ((v[k].toNat : Int) ≤ 90) := by omega
        have q6 : ((v[k].toNat : Int) == 45) = false := by rw [beq_eq_false_iff_ne]; omega
        have q7 : ((v[k].toNat : Int) == 46) = false := by rw [beq_eq_false_iff_ne]; omega
        have HB9 : Hid (Ac.hostB v[k] = false) := Lib.hid (decide_eq_false (by omega))
        have HN := Lib.hid (HG.out k hlt HB9.out)
        clear HG HA HS HE hf HT hq HB9
        go_wp2
        go_ret2
        rw [HN.out]; exact ⟨⟨_, rfl, fun h => by cases h⟩, Below.refl _ _⟩
    · obtain rfl : k = v.length := by omega
      have HGV := Lib.hid (HA.out HT.out)
      clear HG HA HT
      by_cases h46 : v[0].toNat = 46
      · have HR := Lib.hid (HS.out h46)
        have e46 : ((v[0].toNat : Int) == 46) = true := by rw [beq_iff_eq]; omega
        clear HS HE h46
        go_wp2_with fail
        refine (hf _).mono ?_
        rintro e w1 ⟨rfl, hb1⟩
        go_wp2
        go_ret2
        rw [HGV.out]; exact ⟨⟨_, rfl, fun _ => HR.out.symm⟩, hb1⟩
      · have HR := Lib.hid (HE.out h46)
        have e46 : ((v[0].toNat : Int) == 46) = false := by rw [beq_eq_false_iff_ne]; omega
        clear HS HE h46
        go_wp2_with fail
        refine (hf _).mono ?_
        rintro e w1 ⟨rfl, hb1⟩
        go_wp2
        go_ret2
        rw [HGV.out]; exact ⟨⟨_, rfl, fun _ => HR.out.symm⟩, hb1⟩
end Go.Proofs.YtgkphjbcaidcpaaGreatDoor
set_option linter.unusedVariables false
set_option linter.unusedSimpArgs false
namespace Go.Proofs.YtgkphjbcaidcpaaGreatDoor
open Go.RowKit

set_option maxRecDepth 100000
theorem acnum_yes {s : List UInt8} {d m n : Nat} (w : World) (h : Ac.num s d m = some n) (hs : s.length ≤ 4398046511104) (hd : d ≤ 18) (hm : m ≤ 1000000) :
    Calls Tryz.prog 65 #[.string (bs s), .int .i64 (d : Int), .int .i64 (m : Int)] w fun e w' => e = .returned (.tuple #[.int .i64 (n : Int), .bool true]) ∧ Below w.heap.size w w' := by
  refine (acnum_any s d m w hs hd hm).mono fun e w' hh => ?_
  obtain ⟨⟨v, rfl, hv⟩, hb⟩ := hh
  rw [h] at *
  exact ⟨by rw [hv n rfl]; rfl, hb⟩
theorem acnum_none {s : List UInt8} {d m : Nat} (w : World) (h : Ac.num s d m = none) (hs : s.length ≤ 4398046511104) (hd : d ≤ 18) (hm : m ≤ 1000000) :
    Calls Tryz.prog 65 #[.string (bs s), .int .i64 (d : Int), .int .i64 (m : Int)] w fun e w' => (∃ v : Int, e = .returned (.tuple #[.int .i64 v, .bool false])) ∧ Below w.heap.size w w' := by
  refine (acnum_any s d m w hs hd hm).mono fun e w' hh => ?_
  obtain ⟨⟨v, rfl, hv⟩, hb⟩ := hh
  rw [h]
  exact ⟨⟨v, rfl⟩, hb⟩
namespace Ac
theorem num_digs {s : T} {d m n : Nat} (hd : d ≤ 18) (h : num s d m = some n) (c : UInt8) (hc : digB c = false) : ∀ b ∈ s, b ≠ c := by
  intro b hb e
  subst e
  have := List.all_eq_true.1 (num_yes hd h).2.2.1 b hb
  rw [hc] at this; cases this
theorem clk_eq (s : T) : clk s = if Ur.hasC 58 s = true ∧ (Ur.cutA 58 s).length = 2 ∧ (Ur.cutB 58 s).length = 2 then (both (num (Ur.cutA 58 s) 2 23) (num (Ur.cutB 58 s) 2 59)).map (fun p => p.1 * 3600 + p.2 * 60) else none := by
  unfold clk
  by_cases h : Ur.hasC 58 s = true ∧ (Ur.cutA 58 s).length = 2 ∧ (Ur.cutB 58 s).length = 2
  · rw [if_pos h]
    obtain ⟨h1, h2, h3⟩ := h
    have hj := Ur.cut_join h1
    generalize Ur.cutA 58 s = x at *
    generalize Ur.cutB 58 s = y at *
    subst hj
    have e1 : (x ++ 58 :: y).take 2 = x := by rw [← h2]; simp
    have e2 : (x ++ 58 :: y).drop 3 = y := by rw [show 3 = x.length + 1 by omega, List.drop_append]; simp
    rw [if_pos ⟨by simp; omega, by rw [List.getElem?_append_right (by omega), h2]; rfl⟩, e1, e2]
  · rw [if_neg h]
    split
    · rename_i h5
      cases h6 : num (s.take 2) 2 23 with
      | none => rw [both_l]; rfl
      | some a =>
        exfalso
        apply h
        have hfree := num_digs (by omega) h6 58 (by decide)
        have hlt : 2 < s.length := by omega
        have hs : s = s.take 2 ++ 58 :: s.drop 3 := by
          conv => lhs; rw [← List.take_append_drop 2 s, List.drop_eq_getElem_cons hlt]
          rw [List.getElem?_eq_getElem hlt] at h5
          rw [Option.some.inj h5.2]
        have hc := Ur.cut_of (s.drop 3) (s.take 2) hfree
        rw [← hs] at hc
        have hb : Ur.cutB 58 s = s.drop 3 := by unfold Ur.cutB; rw [hc.2]; rfl
        refine ⟨by unfold Ur.hasC; rw [hc.2]; rfl, by rw [hc.1]; simp; omega, by rw [hb]; simp; omega⟩
    · rfl
theorem clk_free {s : T} {n : Nat} (h : clk s = some n) : s.length = 5 ∧ ∀ b ∈ s, b ≠ 45 := by
  rw [clk_eq] at h
  split at h
  · rename_i hh
    obtain ⟨h1, h2, h3⟩ := hh
    cases h6 : num (Ur.cutA 58 s) 2 23 with
    | none => rw [h6, both_l] at h; cases h
    | some a =>
      cases h7 : num (Ur.cutB 58 s) 2 59 with
      | none => rw [h6, h7, both_r] at h; cases h
      | some b =>
        have f1 := num_digs (by omega) h6 45 (by decide)
        have f2 := num_digs (by omega) h7 45 (by decide)
        have hj := Ur.cut_join h1
        refine ⟨by rw [hj]; simp; omega, fun b hb => ?_⟩
        rw [hj] at hb
        rcases List.mem_append.1 hb with hb | hb
        · exact f1 b hb
        · rcases List.mem_cons.1 hb with rfl | hb
          · decide
          · exact f2 b hb
  · cases h
theorem win_eq (s : T) : win s = if Ur.hasC 45 s = true then both (clk (Ur.cutA 45 s)) (clk (Ur.cutB 45 s)) else none := by
  unfold win
  by_cases h5 : s.length = 11 ∧ s[5]? = some 45
  · rw [if_pos h5]
    cases h6 : clk (s.take 5) with
    | none =>
      rw [both_l]
      split
      · rename_i h1
        have hj := Ur.cut_join h1
        cases h7 : clk (Ur.cutA 45 s) with
        | none => rw [both_l]
        | some a =>
          exfalso
          have hl := (clk_free h7).1
          have : s.take 5 = Ur.cutA 45 s := by conv => lhs; rw [hj, ← hl]
                                               simp
          rw [this, h7] at h6; cases h6
      · rfl
    | some a =>
      have hlt : 5 < s.length := by omega
      have hs : s = s.take 5 ++ 45 :: s.drop 6 := by
        conv => lhs; rw [← List.take_append_drop 5 s, List.drop_eq_getElem_cons hlt]
        rw [List.getElem?_eq_getElem hlt] at h5
        rw [Option.some.inj h5.2]
      have hc := Ur.cut_of (s.drop 6) (s.take 5) (clk_free h6).2
      rw [← hs] at hc
      have hb : Ur.cutB 45 s = s.drop 6 := by unfold Ur.cutB; rw [hc.2]; rfl
      rw [if_pos (by unfold Ur.hasC; rw [hc.2]; rfl), hc.1, hb, h6]
  · rw [if_neg h5]
    split
    · rename_i h1
      have hj := Ur.cut_join h1
      cases h7 : clk (Ur.cutA 45 s) with
      | none => rw [both_l]
      | some a =>
        cases h8 : clk (Ur.cutB 45 s) with
        | none => rw [both_r]
        | some b =>
          exfalso
          have l1 := (clk_free h7).1
          have l2 := (clk_free h8).1
          generalize Ur.cutA 45 s = x at *
          generalize Ur.cutB 45 s = y at *
          subst hj
          exact h5 ⟨by simp; omega, by rw [List.getElem?_append_right (by omega), l1]; rfl⟩
    · rfl
end Ac
def ClOut (s : List UInt8) (w : World) (e : Ending) (w' : World) : Prop := (∃ v : Int, e = .returned (.tuple #[.int .i64 v, .bool (Ac.clk s).isSome]) ∧ ∀ n : Nat, Ac.clk s = some n → v = (n : Int)) ∧ Below w.heap.size w w'
theorem cut_len (c : UInt8) (s : List UInt8) : (Ur.cutA c s).length ≤ s.length ∧ (Ur.cutB c s).length ≤ s.length := by
  have h := congrArg List.length (Ur.cut_app c s)
  rw [List.length_append] at h
  unfold Ur.cutB
  rw [List.length_drop]
  omega
set_option maxHeartbeats 1000000 in
theorem clock_any (s : List UInt8) (w : World) (hM : MaxL w) (hl : s.length ≤ 4194304) :
    Calls Tryz.prog 67 #[.string (bs s)] w fun e w' => ClOut s w e w' := by
  have hC := cut_any s 58 w hM (by omega)
  have hlen := cut_len 58 s
  have hE := Ac.clk_eq s
  unfold ClOut
  generalize Ac.clk s = R at *
  generalize hc : Ur.hasC 58 s = has at *
  generalize Ur.cutA 58 s = x at *
  generalize Ur.cutB 58 s = y at *
  clear hc
  cases has with
  | false =>
    have HR : Hid (R = none) := Lib.hid (by rw [hE, if_neg (by simp)])
    clear hE
    go_enter Tryz.func67, Tryz.ntmps67
    go_wp2_with fail
    refine hC.mono ?_
    rintro e w1 ⟨rfl, hb1⟩
    go_wp2
    go_ret2
    rw [HR.out]; exact ⟨⟨_, rfl, fun n h => by cases h⟩, hb1⟩
  | true =>
    by_cases h1 : x.length = 2
    · by_cases h2 : y.length = 2
      · rw [if_pos ⟨rfl, h1, h2⟩] at hE
        have g1 : ((x.length : Int) != 2) = false := by simp; omega
        have g2 : ((y.length : Int) != 2) = false := by simp; omega
        cases hx : Ac.num x 2 23 with
        | none =>
          rw [hx, Ac.both_l] at hE
          have HR : Hid (R = none) := Lib.hid hE
          have hn1 := fun W => acnum_none (s := x) W hx (by omega) (by omega) (by omega)
          have hn2 := fun W => acnum_any y 2 59 W (by omega) (by omega) (by omega)
          clear hE hx h1 h2
          generalize (Ac.num y 2 59).isSome = ok2 at *
          go_enter Tryz.func67, Tryz.ntmps67
          go_wp2_with fail
          refine hC.mono ?_
          rintro e w1 ⟨rfl, hb1⟩
          go_wp2_with fail
          refine (hn1 _).mono ?_
          rintro e w2 ⟨⟨v, rfl⟩, hb2⟩
          go_wp2_with fail
          refine (hn2 _).mono ?_
          rintro e w3 ⟨⟨v2, rfl, -⟩, hb3⟩
          go_wp2
          go_ret2
          rw [HR.out]; exact ⟨⟨_, rfl, fun n h => by cases h⟩, bnext (bnext hb1 hb2 hb1.size) hb3 (by have := hb1.size; have := hb2.size; omega)⟩
        | some a =>
          rw [hx] at hE
          obtain ⟨_, _, _, ha, _⟩ := Ac.num_yes (by omega) hx
          have hn1 := fun W => acnum_yes (s := x) W hx (by omega) (by omega) (by omega)
          cases hy : Ac.num y 2 59 with
          | none =>
            rw [hy, Ac.both_r] at hE
            have HR : Hid (R = none) := Lib.hid hE
            have hn2 := fun W => acnum_none (s := y) W hy (by omega) (by omega) (by omega)
            clear hE hx hy h1 h2
            have ha2 : (a : Int) ≤ 23 := by omega
            have ha3 : 0 ≤ (a : Int) := by omega
            generalize (a : Int) = ai at *
            go_enter Tryz.func67, Tryz.ntmps67
            go_wp2_with fail
            refine hC.mono ?_
            rintro e w1 ⟨rfl, hb1⟩
            go_wp2_with fail
            refine (hn1 _).mono ?_
            rintro e w2 ⟨rfl, hb2⟩
            go_wp2_with fail
            refine (hn2 _).mono ?_
            rintro e w3 ⟨⟨v2, rfl⟩, hb3⟩
            go_wp2
            go_ret2
            rw [HR.out]; exact ⟨⟨_, rfl, fun n h => by cases h⟩, bnext (bnext hb1 hb2 hb1.size) hb3 (by have := hb1.size; have := hb2.size; omega)⟩
          | some b =>
            rw [hy] at hE
            obtain ⟨_, _, _, hb, _⟩ := Ac.num_yes (by omega) hy
            have HR : Hid (R = some (a * 3600 + b * 60)) := Lib.hid hE
            have hn2 := fun W => acnum_yes (s := y) W hy (by omega) (by omega) (by omega)
            clear hE hx hy h1 h2
            have HV : Hid ((((a * 3600 + b * 60 : Nat)) : Int) = (a : Int) * 3600 + (b : Int) * 60) := Lib.hid (by omega)
            have ha2 : (a : Int) ≤ 23 := by omega
            have hb2 : (b : Int) ≤ 59 := by omega
            have ha3 : 0 ≤ (a : Int) := by omega
            have hb3 : 0 ≤ (b : Int) := by omega
            generalize a * 3600 + b * 60 = ab at *
            generalize (a : Int) = ai at *
            generalize (b : Int) = bi at *
            have hw1 : 0 ≤ ai * 3600 ∧ ai * 3600 ≤ 100000 := by omega
            have hw2 : 0 ≤ bi * 60 ∧ bi * 60 ≤ 10000 := by omega
            go_enter Tryz.func67, Tryz.ntmps67
            go_wp2_with fail
            refine hC.mono ?_
            rintro e w1 ⟨rfl, hb1⟩
            go_wp2_with fail
            refine (hn1 _).mono ?_
            rintro e w2 ⟨rfl, hb2⟩
            go_wp2_with fail
            refine (hn2 _).mono ?_
            rintro e w3 ⟨rfl, hb3⟩
            go_wp2
            go_ret2
            rw [HR.out]; exact ⟨⟨_, rfl, fun n h => by cases h; exact HV.out.symm⟩, bnext (bnext hb1 hb2 hb1.size) hb3 (by have := hb1.size; have := hb2.size; omega)⟩
      · have HR : Hid (R = none) := Lib.hid (by rw [hE, if_neg (by omega)])
        have g1 : ((x.length : Int) != 2) = false := by simp; omega
        have g2 : ((y.length : Int) != 2) = true := by simp; omega
        clear hE h1 h2
        go_enter Tryz.func67, Tryz.ntmps67
        go_wp2_with fail
        refine hC.mono ?_
        rintro e w1 ⟨rfl, hb1⟩
        go_wp2
        go_ret2
        rw [HR.out]; exact ⟨⟨_, rfl, fun n h => by cases h⟩, hb1⟩
    · have HR : Hid (R = none) := Lib.hid (by rw [hE, if_neg (by omega)])
      have g1 : ((x.length : Int) != 2) = true := by simp; omega
      clear hE h1
      go_enter Tryz.func67, Tryz.ntmps67
      go_wp2_with fail
      refine hC.mono ?_
      rintro e w1 ⟨rfl, hb1⟩
      go_wp2
      go_ret2
      rw [HR.out]; exact ⟨⟨_, rfl, fun n h => by cases h⟩, hb1⟩
theorem clock_yes {s : List UInt8} {n : Nat} (w : World) (hM : MaxL w) (h : Ac.clk s = some n) (hl : s.length ≤ 4194304) :
    Calls Tryz.prog 67 #[.string (bs s)] w fun e w' => e = .returned (.tuple #[.int .i64 (n : Int), .bool true]) ∧ Below w.heap.size w w' := by
  refine (clock_any s w hM hl).mono fun e w' hh => ?_
  obtain ⟨⟨v, rfl, hv⟩, hb⟩ := hh
  rw [h] at *
  exact ⟨by rw [hv n rfl]; rfl, hb⟩
theorem clock_none {s : List UInt8} (w : World) (hM : MaxL w) (h : Ac.clk s = none) (hl : s.length ≤ 4194304) :
    Calls Tryz.prog 67 #[.string (bs s)] w fun e w' => (∃ v : Int, e = .returned (.tuple #[.int .i64 v, .bool false])) ∧ Below w.heap.size w w' := by
  refine (clock_any s w hM hl).mono fun e w' hh => ?_
  obtain ⟨⟨v, rfl, hv⟩, hb⟩ := hh
  rw [h]
  exact ⟨⟨v, rfl⟩, hb⟩
set_option maxHeartbeats 1000000 in
theorem parseWindow_any (s : List UInt8) (w : World) (hM : MaxL w) (hl : s.length ≤ 4194304) :
    Calls Tryz.prog 55 #[.string (bs s)] w fun e w' => PaOut Ac.timeT s w e w' := by
  have hC := cut_any s 45 w hM (by omega)
  have hlen := cut_len 45 s
  have hE := Ac.win_eq s
  have hRV := Lib.hid fun n b => repV_time (v := s) (n := n) (b := b)
  unfold PaOut
  rw [Ac.good_time]
  generalize repV Ac.timeT s = RV at *
  generalize Ac.win s = R at *
  generalize hc : Ur.hasC 45 s = has at *
  generalize Ur.cutA 45 s = x at *
  generalize Ur.cutB 45 s = y at *
  clear hc
  have h1 := fun W (hb : Below w.heap.size w W) => clock_any x W (maxl_b hM hb) (by omega)
  have h2 := fun W (hb : Below w.heap.size w W) => clock_any y W (maxl_b hM hb) (by omega)
  unfold ClOut at h1 h2
  cases hx : Ac.clk x with
  | none =>
    have HR : Hid (R.isSome = false) := Lib.hid (by rw [hE, hx, Ac.both_l]; cases has <;> rfl)
    rw [hx] at h1
    generalize (Ac.clk y).isSome = ok2 at *
    clear hE hx hRV
    generalize R.isSome = RS at *
    go_enter Tryz.func55, Tryz.ntmps55
    go_wp2_with fail
    refine hC.mono ?_
    rintro e w1 ⟨rfl, hb1⟩
    go_wp2_with fail
    refine (h1 _ hb1).mono ?_
    rintro e w2 ⟨⟨v, rfl, -⟩, hb2⟩
    replace hb1 := bnext hb1 hb2 hb1.size
    go_wp2_with fail
    refine (h2 _ hb1).mono ?_
    rintro e w3 ⟨⟨v2, rfl, -⟩, hb3⟩
    replace hb1 := bnext hb1 hb3 hb1.size
    cases has
    all_goals
      go_wp2
      go_ret2
      rw [HR.out]; exact ⟨⟨_, rfl, fun h => by cases h⟩, hb1⟩
  | some a =>
    cases hy : Ac.clk y with
    | none =>
      have HR : Hid (R.isSome = false) := Lib.hid (by rw [hE, hy, Ac.both_r]; cases has <;> rfl)
      rw [hx] at h1
      rw [hy] at h2
      clear hE hx hy hRV
      generalize R.isSome = RS at *
      go_enter Tryz.func55, Tryz.ntmps55
      go_wp2_with fail
      refine hC.mono ?_
      rintro e w1 ⟨rfl, hb1⟩
      go_wp2_with fail
      refine (h1 _ hb1).mono ?_
      rintro e w2 ⟨⟨v, rfl, -⟩, hb2⟩
      replace hb1 := bnext hb1 hb2 hb1.size
      go_wp2_with fail
      refine (h2 _ hb1).mono ?_
      rintro e w3 ⟨⟨v2, rfl, -⟩, hb3⟩
      replace hb1 := bnext hb1 hb3 hb1.size
      cases has
      all_goals
        go_wp2
        go_ret2
        rw [HR.out]; exact ⟨⟨_, rfl, fun h => by cases h⟩, hb1⟩
    | some b =>
      have HR : Hid (R.isSome = has) := Lib.hid (by rw [hE, hx, hy, Ac.both_s]; cases has <;> rfl)
      have HRV : Hid (has = true → RV = .iface 116 (.agg #[.int .i64 (a : Int), .int .i64 (b : Int)])) := Lib.hid fun h => hRV.out a b (by rw [hE, hx, hy, Ac.both_s, h]; rfl)
      have h1 := fun W (hb : Below w.heap.size w W) => clock_yes W (maxl_b hM hb) hx (by omega)
      have h2 := fun W (hb : Below w.heap.size w W) => clock_yes W (maxl_b hM hb) hy (by omega)
      clear hE hx hy hRV
      generalize R.isSome = RS at *
      generalize (a : Int) = ai at *
      generalize (b : Int) = bi at *
      go_enter Tryz.func55, Tryz.ntmps55
      go_wp2_with fail
      refine hC.mono ?_
      rintro e w1 ⟨rfl, hb1⟩
      go_wp2_with fail
      refine (h1 _ hb1).mono ?_
      rintro e w2 ⟨rfl, hb2⟩
      replace hb1 := bnext hb1 hb2 hb1.size
      go_wp2_with fail
      refine (h2 _ hb1).mono ?_
      rintro e w3 ⟨rfl, hb3⟩
      replace hb1 := bnext hb1 hb3 hb1.size
      cases has
      · go_wp2
        go_ret2
        rw [HR.out]; exact ⟨⟨_, rfl, fun h => by cases h⟩, hb1⟩
      · go_wp2
        go_ret2
        rw [HR.out]; exact ⟨⟨_, rfl, fun _ => (HRV.out (by trivial)).symm⟩, hb1⟩
theorem Ac.prt_no {s : List UInt8} (h : Ac.num (Ur.cutA 45 s) 5 65535 = none) : Ac.prt s = none := by
  unfold Ac.prt
  split
  · rw [h, Ac.both_l]; rfl
  · rename_i hc
    rw [Ur.cutA_no (by simpa using hc)] at h
    rw [h, Ac.both_l]; rfl
theorem Ac.prt_one {s : List UInt8} {a : Nat} (hc : Ur.hasC 45 s = false) (h : Ac.num (Ur.cutA 45 s) 5 65535 = some a) : Ac.prt s = Ac.prtOK (a, a) := by
  unfold Ac.prt
  rw [Ur.cutA_no hc] at h
  rw [if_neg (by simp [hc]), h, Ac.both_s]; rfl
theorem Ac.prt_two {s : List UInt8} {a : Nat} (hc : Ur.hasC 45 s = true) (h : Ac.num (Ur.cutA 45 s) 5 65535 = some a) : Ac.prt s = (Ac.both (some a) (Ac.num (Ur.cutB 45 s) 5 65535)).bind Ac.prtOK := by
  unfold Ac.prt
  rw [if_pos hc, h]
set_option maxHeartbeats 1000000 in
theorem parsePorts_any (s : List UInt8) (w : World) (hM : MaxL w) (hl : s.length ≤ 4194304) :
    Calls Tryz.prog 52 #[.string (bs s)] w fun e w' => PaOut Ac.portT s w e w' := by
  have hC := cut_any s 45 w hM (by omega)
  have hlen := cut_len 45 s
  have hRV := Lib.hid fun n b => repV_port (v := s) (n := n) (b := b)
  have hP0 := Lib.hid fun h => Ac.prt_no (s := s) h
  have hP1 := Lib.hid fun a hc h => Ac.prt_one (s := s) (a := a) hc h
  have hP2 := Lib.hid fun a hc h => Ac.prt_two (s := s) (a := a) hc h
  unfold PaOut
  rw [Ac.good_port]
  generalize repV Ac.portT s = RV at *
  generalize Ac.prt s = R at *
  generalize Ur.hasC 45 s = has at *
  generalize Ur.cutA 45 s = x at *
  generalize Ur.cutB 45 s = y at *
  cases hx : Ac.num x 5 65535 with
  | none =>
    have HR : Hid (R.isSome = false) := Lib.hid (by rw [hP0.out hx]; rfl)
    have h1 := fun W => acnum_none (s := x) W hx (by omega) (by omega) (by omega)
    clear hx hRV hP0 hP1 hP2
    generalize R.isSome = RS at *
    go_enter Tryz.func52, Tryz.ntmps52
    go_wp2_with fail
    refine hC.mono ?_
    rintro e w1 ⟨rfl, hb1⟩
    go_wp2_with fail
    refine (h1 _).mono ?_
    rintro e w2 ⟨⟨v, rfl⟩, hb2⟩
    replace hb1 := bnext hb1 hb2 hb1.size
    go_wp2
    go_ret2
    rw [HR.out]; exact ⟨⟨_, rfl, fun h => by cases h⟩, hb1⟩
  | some a =>
    have h1 := fun W => acnum_yes (s := x) W hx (by omega) (by omega) (by omega)
    cases has with
    | false =>
      have hp := hP1.out a rfl hx
      clear hP0 hP1 hP2 hx
      unfold Ac.prtOK at hp
      by_cases ha : 1 ≤ a
      · rw [if_pos ⟨ha, Nat.le_refl _⟩] at hp
        have HR : Hid (R.isSome = true) := Lib.hid (by rw [hp]; rfl)
        have HV := Lib.hid (hRV.out a a hp)
        clear hp hRV
        generalize R.isSome = RS at *
        have ha2 : (1 : Int) ≤ (a : Int) := by omega
        clear ha
        generalize (a : Int) = ai at *
        go_enter Tryz.func52, Tryz.ntmps52
        go_wp2_with fail
        refine hC.mono ?_
        rintro e w1 ⟨rfl, hb1⟩
        go_wp2_with fail
        refine (h1 _).mono ?_
        rintro e w2 ⟨rfl, hb2⟩
        replace hb1 := bnext hb1 hb2 hb1.size
        go_wp2
        go_ret2
        rw [HR.out]; exact ⟨⟨_, rfl, fun _ => HV.out.symm⟩, hb1⟩
      · rw [if_neg (fun h => ha h.1)] at hp
        have HR : Hid (R.isSome = false) := Lib.hid (by rw [hp]; rfl)
        clear hp hRV
        generalize R.isSome = RS at *
        have ha2 : ¬ (1 : Int) ≤ (a : Int) := by omega
        clear ha
        generalize (a : Int) = ai at *
        go_enter Tryz.func52, Tryz.ntmps52
        go_wp2_with fail
        refine hC.mono ?_
        rintro e w1 ⟨rfl, hb1⟩
        go_wp2_with fail
        refine (h1 _).mono ?_
        rintro e w2 ⟨rfl, hb2⟩
        replace hb1 := bnext hb1 hb2 hb1.size
        go_wp2
        go_ret2
        rw [HR.out]; exact ⟨⟨_, rfl, fun h => by cases h⟩, hb1⟩
    | true =>
      have hp := hP2.out a rfl hx
      clear hP0 hP1 hP2 hx
      cases hy : Ac.num y 5 65535 with
      | none =>
        rw [hy, Ac.both_r] at hp
        have HR : Hid (R.isSome = false) := Lib.hid (by rw [hp]; rfl)
        have h2 := fun W => acnum_none (s := y) W hy (by omega) (by omega) (by omega)
        clear hp hRV hy
        generalize R.isSome = RS at *
        generalize (a : Int) = ai at *
        go_enter Tryz.func52, Tryz.ntmps52
        go_wp2_with fail
        refine hC.mono ?_
        rintro e w1 ⟨rfl, hb1⟩
        go_wp2_with fail
        refine (h1 _).mono ?_
        rintro e w2 ⟨rfl, hb2⟩
        replace hb1 := bnext hb1 hb2 hb1.size
        go_wp2_with fail
        refine (h2 _).mono ?_
        rintro e w3 ⟨⟨v, rfl⟩, hb3⟩
        replace hb1 := bnext hb1 hb3 hb1.size
        go_wp2
        go_ret2
        rw [HR.out]; exact ⟨⟨_, rfl, fun h => by cases h⟩, hb1⟩
      | some b =>
        rw [hy, Ac.both_s] at hp
        change R = Ac.prtOK (a, b) at hp
        unfold Ac.prtOK at hp
        have h2 := fun W => acnum_yes (s := y) W hy (by omega) (by omega) (by omega)
        clear hy
        by_cases ha : 1 ≤ a
        · by_cases hab : a ≤ b
          · rw [if_pos ⟨ha, hab⟩] at hp
            have HR : Hid (R.isSome = true) := Lib.hid (by rw [hp]; rfl)
            have HV := Lib.hid (hRV.out a b hp)
            clear hp hRV
            generalize R.isSome = RS at *
            have ha2 : (1 : Int) ≤ (a : Int) := by omega
            have hab2 : (a : Int) ≤ (b : Int) := by omega
            clear ha hab
            generalize (a : Int) = ai at *
            generalize (b : Int) = bi at *
            go_enter Tryz.func52, Tryz.ntmps52
            go_wp2_with fail
            refine hC.mono ?_
            rintro e w1 ⟨rfl, hb1⟩
            go_wp2_with fail
            refine (h1 _).mono ?_
            rintro e w2 ⟨rfl, hb2⟩
            replace hb1 := bnext hb1 hb2 hb1.size
            go_wp2_with fail
            refine (h2 _).mono ?_
            rintro e w3 ⟨rfl, hb3⟩
            replace hb1 := bnext hb1 hb3 hb1.size
            go_wp2
            go_ret2
            rw [HR.out]; exact ⟨⟨_, rfl, fun _ => HV.out.symm⟩, hb1⟩
          · rw [if_neg (fun h => hab h.2)] at hp
            have HR : Hid (R.isSome = false) := Lib.hid (by rw [hp]; rfl)
            clear hp hRV
            generalize R.isSome = RS at *
            have ha2 : (1 : Int) ≤ (a : Int) := by omega
            have hab2 : ¬ (a : Int) ≤ (b : Int) := by omega
            clear ha hab
            generalize (a : Int) = ai at *
            generalize (b : Int) = bi at *
            go_enter Tryz.func52, Tryz.ntmps52
            go_wp2_with fail
            refine hC.mono ?_
            rintro e w1 ⟨rfl, hb1⟩
            go_wp2_with fail
            refine (h1 _).mono ?_
            rintro e w2 ⟨rfl, hb2⟩
            replace hb1 := bnext hb1 hb2 hb1.size
            go_wp2_with fail
            refine (h2 _).mono ?_
            rintro e w3 ⟨rfl, hb3⟩
            replace hb1 := bnext hb1 hb3 hb1.size
            go_wp2
            go_ret2
            have hd9 : decide (ai ≤ bi) = false := decide_eq_false (by omega)
            rw [HR.out, ← hd9]; exact ⟨⟨_, rfl, fun h => by rw [hd9] at h; cases h⟩, hb1⟩
        · rw [if_neg (fun h => ha h.1)] at hp
          have HR : Hid (R.isSome = false) := Lib.hid (by rw [hp]; rfl)
          clear hp hRV
          generalize R.isSome = RS at *
          have ha2 : ¬ (1 : Int) ≤ (a : Int) := by omega
          clear ha
          generalize (a : Int) = ai at *
          generalize (b : Int) = bi at *
          go_enter Tryz.func52, Tryz.ntmps52
          go_wp2_with fail
          refine hC.mono ?_
          rintro e w1 ⟨rfl, hb1⟩
          go_wp2_with fail
          refine (h1 _).mono ?_
          rintro e w2 ⟨rfl, hb2⟩
          replace hb1 := bnext hb1 hb2 hb1.size
          go_wp2_with fail
          refine (h2 _).mono ?_
          rintro e w3 ⟨rfl, hb3⟩
          replace hb1 := bnext hb1 hb3 hb1.size
          go_wp2
          go_ret2
          rw [HR.out]; exact ⟨⟨_, rfl, fun h => by cases h⟩, hb1⟩
end Go.Proofs.YtgkphjbcaidcpaaGreatDoor
