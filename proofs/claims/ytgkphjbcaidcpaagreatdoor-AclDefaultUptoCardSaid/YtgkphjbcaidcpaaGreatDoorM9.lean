/- Joined texts: What the values but patterns hold for; The values' parsers: hosts, ports, times. The conditions stand in each line. -/
import Derived.Test.YtgkphjbcaidcpaaGreatDoorM7
import Derived.Test.YtgkphjbcaidcpaaGreatDoorM8
import Derived.Laws.BitsLemmas
set_option linter.unusedVariables false
set_option linter.unusedSimpArgs false
namespace Go.Proofs.YtgkphjbcaidcpaaGreatDoor
open Go.RowKit

set_option maxRecDepth 100000
def askV (a : Ac.Ask) : Value := .agg #[.int .i64 a.src, .string (bs a.host), .int .i64 a.port, .string (bs a.meth), .string (bs a.path), .int .i64 a.now]
structure AskOK (a : Ac.Ask) : Prop where
  host : a.host.length ≤ 4194304
  meth : a.meth.length ≤ 4194304
  path : a.path.length ≤ 4194304
  n1 : -9223372036854775808 ≤ a.now
  n2 : a.now ≤ 9223372036854775807
theorem Ac.and_mask (x k : Nat) (hx : x < 4294967296) (hk : k ≤ 32) : x &&& ((2 ^ (32 - k) - 1) <<< k) = x / 2 ^ k * 2 ^ k := by
  rw [← Nat.shiftLeft_eq, ← Nat.shiftRight_eq_div_pow]
  apply Nat.eq_of_testBit_eq
  intro i
  rw [Nat.testBit_and, Nat.testBit_shiftLeft, Nat.testBit_shiftLeft, Nat.testBit_two_pow_sub_one, Nat.testBit_shiftRight]
  by_cases h1 : k ≤ i
  · rw [show k + (i - k) = i by omega]
    by_cases h2 : i < 32
    · simp [h1, show i - k < 32 - k by omega]
    · have : x.testBit i = false := Nat.testBit_lt_two_pow (Nat.lt_of_lt_of_le hx (by
        have h := Nat.pow_le_pow_right (show 0 < 2 by omega) (show 32 ≤ i by omega)
        have e : (2 : Nat) ^ 32 = 4294967296 := by decide
        omega))
      simp [this]
  · simp [h1]
/-- A network's mask. -/
def Ac.mask (b : Nat) : Nat := (2 ^ b - 1) <<< (32 - b)
theorem Ac.mask_eq (x y b : Nat) (hx : x < 4294967296) (hy : y < 4294967296) (hb : b ≤ 32) : ((x &&& Ac.mask b) = (y &&& Ac.mask b)) ↔ x / 2 ^ (32 - b) = y / 2 ^ (32 - b) := by
  unfold Ac.mask
  have h1 := Ac.and_mask x (32 - b) hx (by omega)
  have h2 := Ac.and_mask y (32 - b) hy (by omega)
  rw [show 32 - (32 - b) = b by omega] at h1 h2
  rw [h1, h2]
  constructor
  · intro h; exact Nat.eq_of_mul_eq_mul_right (Nat.two_pow_pos _) h
  · intro h; rw [h]
theorem Ac.mask_lt (b : Nat) (hb : b ≤ 32) : Ac.mask b < 4294967296 := by
  unfold Ac.mask
  rw [Nat.shiftLeft_eq]
  have h1 : 2 ^ b * 2 ^ (32 - b) = 2 ^ 32 := by rw [← Nat.pow_add]; congr 1; omega
  have e : (2 : Nat) ^ 32 = 4294967296 := by decide
  have h2 := Nat.two_pow_pos b
  have h3 := Nat.two_pow_pos (32 - b)
  have h4 : (2 ^ b - 1) * 2 ^ (32 - b) = 2 ^ b * 2 ^ (32 - b) - 2 ^ (32 - b) := by rw [Nat.sub_mul, Nat.one_mul]
  omega
theorem Ac.mask_bits (x b : Nat) (hx : x < 4294967296) (hb : b ≤ 32) : bits .and .u32 (x : Int) (Ac.mask b : Int) = ((x &&& Ac.mask b : Nat) : Int) :=
  (bits_nat .u32 32 (by decide) (fun n h0 h1 => by rw [IntKind.wrap_u32]; omega) x (Ac.mask b) hx (Ac.mask_lt b hb)).1
theorem net_any (n b : Nat) (a : Ac.Ask) (w : World) (hn : n < 4294967296) (hb : b ≤ 32) :
    Calls Tryz.prog 134 #[.agg #[.int .u32 (n : Int), .int .u32 (Ac.mask b : Int)], askV a] w fun e w' => e = .returned (.bool ((a.src % 4294967296).toNat / 2 ^ (32 - b) == n / 2 ^ (32 - b))) ∧ Below w.heap.size w w' := by
  have HM : Hid ((bits .and .u32 (a.src % 4294967296) (Ac.mask b : Int) == bits .and .u32 (n : Int) (Ac.mask b : Int)) = ((a.src % 4294967296).toNat / 2 ^ (32 - b) == n / 2 ^ (32 - b))) := Lib.hid (by
    obtain ⟨x, hx⟩ : ∃ x : Nat, (a.src % 4294967296).toNat = x := ⟨_, rfl⟩
    have hx2 : a.src % 4294967296 = (x : Int) := by omega
    have hx3 : x < 4294967296 := by omega
    rw [hx2, Int.toNat_natCast, Ac.mask_bits x b hx3 hb, Ac.mask_bits n b hn hb, Bool.eq_iff_iff, beq_iff_eq, beq_iff_eq, ← Ac.mask_eq x n b hx3 hn hb]
    omega)
  generalize ((a.src % 4294967296).toNat / 2 ^ (32 - b) == n / 2 ^ (32 - b)) = R at *
  generalize (Ac.mask b : Int) = m at *
  generalize (n : Int) = x at *
  unfold askV
  go_enter Tryz.func134, Tryz.ntmps134
  go_wp2
  go_ret
  exact ⟨by rw [← HM.out]; rfl, ((Below.refl _ _).alloc (Nat.le_refl _) _).alloc (by simp) _⟩
theorem exact_any (v : List UInt8) (a : Ac.Ask) (w : World) (ha : AskOK a) :
    Calls Tryz.prog 136 #[.string (bs v), askV a] w fun e w' => e = .returned (.bool (fold a.host == v)) ∧ Below w.heap.size w w' := by
  have hf := fold_any a.host
  have hh := ha.host
  have hb0 := alloc_below w (.cells #[.int .i64 a.src, .string (bs a.host), .int .i64 a.port, .string (bs a.meth), .string (bs a.path), .int .i64 a.now] 37)
  unfold askV
  generalize fold a.host = F at *
  go_enter Tryz.func136, Tryz.ntmps136
  go_wp2_with fail
  refine (hf _ (by omega)).mono ?_
  rintro e w2 ⟨rfl, hb2⟩
  go_wp2
  go_ret
  exact ⟨rfl, bnext hb0 hb2 hb0.size⟩
theorem suffix_any (v : List UInt8) (a : Ac.Ask) (w : World) (ha : AskOK a) (hv : 1 ≤ v.length) (hv2 : v.length ≤ 4194304) :
    Calls Tryz.prog 135 #[.string (bs v), askV a] w fun e w' => e = .returned (.bool (fold a.host == v.drop 1 || sufB v (fold a.host))) ∧ Below w.heap.size w w' := by
  have hf := fold_any a.host
  have hh := ha.host
  have hfl := fold_length a.host
  have hb0 := alloc_below w (.cells #[.int .i64 a.src, .string (bs a.host), .int .i64 a.port, .string (bs a.meth), .string (bs a.path), .int .i64 a.now] 37)
  have hD : v.drop 1 = List.take (v.length - 1) v.tail := by rw [List.take_of_length_le (by simp)]; simp
  rw [hD]
  clear hD
  unfold askV
  generalize fold a.host = F at *
  have hS := fun W => shasSuffix_any F v W (by omega) (by omega)
  generalize sufB v F = SB at *
  cases hq : (F == List.take (v.length - 1) v.tail) with
  | true =>
    clear hS
    go_enter Tryz.func135, Tryz.ntmps135
    go_wp2_with fail
    refine (hf _ (by omega)).mono ?_
    rintro e w2 ⟨rfl, hb2⟩
    go_wp2
    go_ret
    exact ⟨by simp, bnext hb0 hb2 hb0.size⟩
  | false =>
    go_enter Tryz.func135, Tryz.ntmps135
    go_wp2_with fail
    refine (hf _ (by omega)).mono ?_
    rintro e w2 ⟨rfl, hb2⟩
    go_wp2_with fail
    refine (hS _).mono ?_
    rintro e w3 ⟨rfl, hw⟩
    subst hw
    go_wp2
    go_ret
    exact ⟨by simp, bnext hb0 hb2 hb0.size⟩
theorem span_any (x y : Int) (a : Ac.Ask) (w : World) :
    Calls Tryz.prog 137 #[.agg #[.int .i64 x, .int .i64 y], askV a] w fun e w' => e = .returned (.bool (decide (x ≤ a.port) && decide (a.port ≤ y))) ∧ Below w.heap.size w w' := by
  unfold askV
  by_cases h : x ≤ a.port
  · have HD : Hid (decide (x ≤ a.port) = true) := Lib.hid (decide_eq_true h)
    go_enter Tryz.func137, Tryz.ntmps137
    go_wp2
    go_ret
    exact ⟨by rw [HD.out]; rfl, ((Below.refl _ _).alloc (Nat.le_refl _) _).alloc (by simp) _⟩
  · have HD : Hid (decide (x ≤ a.port) = false) := Lib.hid (decide_eq_false h)
    go_enter Tryz.func137, Tryz.ntmps137
    go_wp2
    go_ret
    exact ⟨by rw [HD.out]; rfl, ((Below.refl _ _).alloc (Nat.le_refl _) _).alloc (by simp) _⟩
theorem method_any (v : List UInt8) (a : Ac.Ask) (w : World) :
    Calls Tryz.prog 129 #[.string (bs v), askV a] w fun e w' => e = .returned (.bool (a.meth == v)) ∧ Below w.heap.size w w' := by
  unfold askV
  go_enter Tryz.func129, Tryz.ntmps129
  go_wp2
  go_ret
  exact ⟨rfl, (Below.refl _ _).alloc (Nat.le_refl _) _⟩
def Ac.winB (x y s : Int) : Bool := if x < y then decide (x ≤ s) && decide (s < y) else decide (x ≤ s) || decide (s < y)
theorem window_any (x y : Int) (a : Ac.Ask) (w : World) (ha : AskOK a) :
    Calls Tryz.prog 138 #[.agg #[.int .i64 x, .int .i64 y], askV a] w fun e w' => e = .returned (.bool (Ac.winB x y ((max a.now 0) % 86400))) ∧ Below w.heap.size w w' := by
  have h1 := ha.n1
  have h2 := ha.n2
  have hm : 0 ≤ (max a.now 0) % 86400 ∧ (max a.now 0) % 86400 < 86400 := by omega
  unfold askV
  by_cases h : x < y
  · by_cases h9 : x ≤ (max a.now 0) % 86400
    · have HD : Hid (Ac.winB x y ((max a.now 0) % 86400) = decide ((max a.now 0) % 86400 < y)) := Lib.hid (by unfold Ac.winB; rw [if_pos h, decide_eq_true h9, Bool.true_and])
      go_enter Tryz.func138, Tryz.ntmps138
      go_wp2
      go_ret
      exact ⟨by rw [HD.out]; rfl, ((Below.refl _ _).alloc (Nat.le_refl _) _).alloc (by simp) _⟩
    · have HD : Hid (Ac.winB x y ((max a.now 0) % 86400) = false) := Lib.hid (by unfold Ac.winB; rw [if_pos h, decide_eq_false h9, Bool.false_and])
      go_enter Tryz.func138, Tryz.ntmps138
      go_wp2
      go_ret
      exact ⟨by rw [HD.out]; rfl, ((Below.refl _ _).alloc (Nat.le_refl _) _).alloc (by simp) _⟩
  · by_cases h9 : x ≤ (max a.now 0) % 86400
    · have HD : Hid (Ac.winB x y ((max a.now 0) % 86400) = true) := Lib.hid (by unfold Ac.winB; rw [if_neg h, decide_eq_true h9, Bool.true_or])
      go_enter Tryz.func138, Tryz.ntmps138
      go_wp2
      go_ret
      exact ⟨by rw [HD.out]; rfl, ((Below.refl _ _).alloc (Nat.le_refl _) _).alloc (by simp) _⟩
    · have HD : Hid (Ac.winB x y ((max a.now 0) % 86400) = decide ((max a.now 0) % 86400 < y)) := Lib.hid (by unfold Ac.winB; rw [if_neg h, decide_eq_false h9, Bool.false_or])
      go_enter Tryz.func138, Tryz.ntmps138
      go_wp2
      go_ret
      exact ⟨by rw [HD.out]; rfl, ((Below.refl _ _).alloc (Nat.le_refl _) _).alloc (by simp) _⟩
end Go.Proofs.YtgkphjbcaidcpaaGreatDoor
set_option linter.unusedVariables false
set_option linter.unusedSimpArgs false
namespace Go.Proofs.YtgkphjbcaidcpaaGreatDoor
open Go.RowKit

set_option maxRecDepth 100000
/-- A value as the program keeps it. -/
def repV (k v : List UInt8) : Value :=
  if k = Ac.srcT then (match Ac.net v with | some (n, b) => .iface 110 (.agg #[.int .u32 (n : Int), .int .u32 (Ac.mask b : Int)]) | none => .nilIface)
  else if k = Ac.hostT then (if (fold v).head? = some 46 then .iface 111 (.string (bs (fold v))) else .iface 112 (.string (bs (fold v))))
  else if k = Ac.portT then (match Ac.prt v with | some (x, y) => .iface 114 (.agg #[.int .i64 (x : Int), .int .i64 (y : Int)]) | none => .nilIface)
  else if k = Ac.methT then .iface 100 (.string (bs v))
  else if k = Ac.pathT then .iface 101 (.string (bs v))
  else (match Ac.win v with | some (x, y) => .iface 116 (.agg #[.int .i64 (x : Int), .int .i64 (y : Int)]) | none => .nilIface)
def PaOut (k v : List UInt8) (w : World) (e : Ending) (w' : World) : Prop := (∃ u, e = .returned (.tuple #[u, .bool (Ac.good k v)]) ∧ (Ac.good k v = true → u = repV k v)) ∧ Below w.heap.size w w'
theorem Ac.good_src (v : List UInt8) : Ac.good Ac.srcT v = (Ac.net v).isSome := rfl
theorem Ac.good_host (v : List UInt8) : Ac.good Ac.hostT v = v.all Ac.hostB := rfl
theorem Ac.good_port (v : List UInt8) : Ac.good Ac.portT v = (Ac.prt v).isSome := rfl
theorem Ac.good_meth (v : List UInt8) : Ac.good Ac.methT v = Ac.tok v := rfl
theorem Ac.good_path (v : List UInt8) : Ac.good Ac.pathT v = true := rfl
theorem Ac.good_time (v : List UInt8) : Ac.good Ac.timeT v = (Ac.win v).isSome := rfl
theorem repV_src {v : List UInt8} {n b : Nat} (h : Ac.net v = some (n, b)) : repV Ac.srcT v = .iface 110 (.agg #[.int .u32 (n : Int), .int .u32 (Ac.mask b : Int)]) := by
  unfold repV; rw [if_pos rfl, h]
theorem repV_port {v : List UInt8} {n b : Nat} (h : Ac.prt v = some (n, b)) : repV Ac.portT v = .iface 114 (.agg #[.int .i64 (n : Int), .int .i64 (b : Int)]) := by
  unfold repV; rw [if_neg (by decide), if_neg (by decide), if_pos rfl, h]
theorem repV_time {v : List UInt8} {n b : Nat} (h : Ac.win v = some (n, b)) : repV Ac.timeT v = .iface 116 (.agg #[.int .i64 (n : Int), .int .i64 (b : Int)]) := by
  unfold repV; rw [if_neg (by decide), if_neg (by decide), if_neg (by decide), if_neg (by decide), if_neg (by decide), h]
theorem repV_suf {v : List UInt8} (h : (fold v).head? = some 46) : repV Ac.hostT v = .iface 111 (.string (bs (fold v))) := by
  unfold repV; rw [if_neg (by decide), if_pos rfl, if_pos h]
theorem repV_ex {v : List UInt8} (h : (fold v).head? ≠ some 46) : repV Ac.hostT v = .iface 112 (.string (bs (fold v))) := by
  unfold repV; rw [if_neg (by decide), if_pos rfl, if_neg h]
theorem head_fold {v : List UInt8} (h : 0 < v.length) : ((fold v).head? = some 46) ↔ v[0].toNat = 46 := by
  cases v with
  | nil => simp at h
  | cons c r =>
    show some (low c) = some 46 ↔ c.toNat = 46
    rw [Option.some.injEq]
    constructor
    · intro e
      by_cases hc : 65 ≤ c.toNat ∧ c.toNat ≤ 90
      · have := low_yes hc.1 hc.2; rw [e] at this; have h46 : (46 : UInt8).toNat = 46 := rfl; omega
      · rw [low_no hc] at e; rw [e]; rfl
    · intro e
      rw [low_no (by omega)]; exact UInt8.toNat_inj.1 (by rw [e]; rfl)
set_option maxHeartbeats 2000000 in
theorem parseHost_any (v : List UInt8) (w : World) (hv : 1 ≤ v.length) (hl : v.length ≤ 4194304) :
    Calls Tryz.prog 51 #[.string (bs v)] w fun e w' => PaOut Ac.hostT v w e w' := by
  have hf := fun W => fold_any v W (by omega)
  have h0 : 0 < v.length := hv
  have HS := Lib.hid (fun (h : (v[0]'h0).toNat = 46) => repV_suf (v := v) ((head_fold h0).2 h))
  have HE := Lib.hid (fun (h : (v[0]'h0).toNat ≠ 46) => repV_ex (v := v) (fun h2 => h ((head_fold h0).1 h2)))
  have HG : Hid (∀ k (h : k < v.length), Ac.hostB v[k] = false → Ac.good Ac.hostT v = false) := Lib.hid fun k h hb => all_stop Ac.hostB v k h hb
  have HA : Hid ((v.take v.length).all Ac.hostB = true → Ac.good Ac.hostT v = true) := Lib.hid fun h => all_full Ac.hostB v h
  unfold PaOut
  generalize repV Ac.hostT v = RV at *
  generalize Ac.good Ac.hostT v = GV at *
  generalize fold v = F at *
  go_enter Tryz.func51, Tryz.ntmps51
  go_wp2
  go_loop [8] (fun t => ∃ k : Nat, k ≤ v.length ∧ t = .int .i64 (k : Int) ∧ Hid ((v.take k).all Ac.hostB = true)) (fun t => v.length - (intOf t).toNat)
  case atStart => exact ⟨0, by omega, rfl, Lib.hid rfl⟩
  case round =>
    obtain ⟨k, hk, rfl, HT⟩ := hrel
    by_cases hlt : k < v.length
    · have hc255 : (v[k].toNat : Int) ≤ 255 := by have := v[k].toNat_lt; omega
      have hcl : (0 ≤ (v[k].toNat : Int) ∧ (v[k].toNat : Int) ≤ 44) ∨ (45 ≤ (v[k].toNat : Int) ∧ (v[k].toNat : Int) ≤ 45) ∨ (46 ≤ (v[k].toNat : Int) ∧ (v[k].toNat : Int) ≤ 46) ∨ (47 ≤ (v[k].toNat : Int) ∧ (v[k].toNat : Int) ≤ 47) ∨ (48 ≤ (v[k].toNat : Int) ∧ (v[k].toNat : Int) ≤ 57) ∨ (58 ≤ (v[k].toNat : Int) ∧ (v[k].toNat : Int) ≤ 64) ∨ (65 ≤ (v[k].toNat : Int) ∧ (v[k].toNat : Int) ≤ 90) ∨ (91 ≤ (v[k].toNat : Int) ∧ (v[k].toNat : Int) ≤ 96) ∨ (97 ≤ (v[k].toNat : Int) ∧ (v[k].toNat : Int) ≤ 122) ∨ (123 ≤ (v[k].toNat : Int) ∧ (v[k].toNat : Int) ≤ 255) := by omega
      rcases hcl with hq | hq | hq | hq | hq | hq | hq | hq | hq | hq
      · have q0 : ¬ ((48 : Int) ≤ (v[k].toNat : Int)) := by omega
        have q1 : (v[k].toNat : Int) ≤ 57 := by omega
        have q2 : ¬ ((97 : Int) ≤ (v[k].toNat : Int)) := by omega
        have q3 : (v[k].toNat : Int) ≤ 122 := by omega
        have q4 : ¬ ((65 : Int) ≤ (v[k].toNat : Int)) := by omega
        have q5 : (v[k].toNat : Int) ≤ 90 := by omega
        have q6 : ((v[k].toNat : Int) == 45) = false := by rw [beq_eq_false_iff_ne]; omega
        have q7 : ((v[k].toNat : Int) == 46) = false := by rw [beq_eq_false_iff_ne]; omega
        have HB9 : Hid (Ac.hostB v[k] = false) := Lib.hid (decide_eq_false (by omega))
        have HN := Lib.hid (HG.out k hlt HB9.out)
        clear HG HA HS HE hf HT hq HB9
        go_wp2
        go_ret2
        rw [HN.out]; exact ⟨⟨_, rfl, fun h => by cases h⟩, Below.refl _ _⟩
      · have q0 : ¬ ((48 : Int) ≤ (v[k].toNat : Int)) := by omega
        have q1 : (v[k].toNat : Int) ≤ 57 := by omega
        have q2 : ¬ ((97 : Int) ≤ (v[k].toNat : Int)) := by omega
        have q3 : (v[k].toNat : Int) ≤ 122 := by omega
        have q4 : ¬ ((65 : Int) ≤ (v[k].toNat : Int)) := by omega
        have q5 : (v[k].toNat : Int) ≤ 90 := by omega
        have q6 : ((v[k].toNat : Int) == 45) = true := by rw [beq_iff_eq]; omega
        have q7 : ((v[k].toNat : Int) == 46) = false := by rw [beq_eq_false_iff_ne]; omega
        have HT2 : Hid ((v.take (k + 1)).all Ac.hostB = true) := Lib.hid (by rw [all_snoc Ac.hostB v k hlt, HT.out, show Ac.hostB v[k] = true from decide_eq_true (by omega)]; rfl)
        clear HG HA HS HE hf HT hq
        go_wp2
        go_round
        case rel => exact ⟨k + 1, by omega, by go_num, HT2⟩
        case measure => simp [intOf]; omega
      · have q0 : ¬ ((48 : Int) ≤ (v[k].toNat : Int)) := by omega
        have q1 : (v[k].toNat : Int) ≤ 57 := by omega
        have q2 : ¬ ((97 : Int) ≤ (v[k].toNat : Int)) := by omega
        have q3 : (v[k].toNat : Int) ≤ 122 := by omega
        have q4 : ¬ ((65 : Int) ≤ (v[k].toNat : Int)) := by omega
        have q5 : (v[k].toNat : Int) ≤ 90 := by omega
        have q6 : ((v[k].toNat : Int) == 45) = false := by rw [beq_eq_false_iff_ne]; omega
        have q7 : ((v[k].toNat : Int) == 46) = true := by rw [beq_iff_eq]; omega
        have HT2 : Hid ((v.take (k + 1)).all Ac.hostB = true) := Lib.hid (by rw [all_snoc Ac.hostB v k hlt, HT.out, show Ac.hostB v[k] = true from decide_eq_true (by omega)]; rfl)
        clear HG HA HS HE hf HT hq
        go_wp2
        go_round
        case rel => exact ⟨k + 1, by omega, by go_num, HT2⟩
        case measure => simp [intOf]; omega
      · have q0 : ¬ ((48 : Int) ≤ (v[k].toNat : Int)) := by omega
        have q1 : (v[k].toNat : Int) ≤ 57 := by omega
        have q2 : ¬ ((97 : Int) ≤ (v[k].toNat : Int)) := by omega
        have q3 : (v[k].toNat : Int) ≤ 122 := by omega
        have q4 : ¬ ((65 : Int) ≤ (v[k].toNat : Int)) := by omega
        have q5 : (v[k].toNat : Int) ≤ 90 := by omega
        have q6 : ((v[k].toNat : Int) == 45) = false := by rw [beq_eq_false_iff_ne]; omega
        have q7 : ((v[k].toNat : Int) == 46) = false := by rw [beq_eq_false_iff_ne]; omega
        have HB9 : Hid (Ac.hostB v[k] = false) := Lib.hid (decide_eq_false (by omega))
        have HN := Lib.hid (HG.out k hlt HB9.out)
        clear HG HA HS HE hf HT hq HB9
        go_wp2
        go_ret2
        rw [HN.out]; exact ⟨⟨_, rfl, fun h => by cases h⟩, Below.refl _ _⟩
      · have q0 : (48 : Int) ≤ (v[k].toNat : Int) := by omega
        have q1 : (v[k].toNat : Int) ≤ 57 := by omega
        have q2 : ¬ ((97 : Int) ≤ (v[k].toNat : Int)) := by omega
        have q3 : (v[k].toNat : Int) ≤ 122 := by omega
        have q4 : ¬ ((65 : Int) ≤ (v[k].toNat : Int)) := by omega
        have q5 : (v[k].toNat : Int) ≤ 90 := by omega
        have q6 : ((v[k].toNat : Int) == 45) = false := by rw [beq_eq_false_iff_ne]; omega
        have q7 : ((v[k].toNat : Int) == 46) = false := by rw [beq_eq_false_iff_ne]; omega
        have HT2 : Hid ((v.take (k + 1)).all Ac.hostB = true) := Lib.hid (by rw [all_snoc Ac.hostB v k hlt, HT.out, show Ac.hostB v[k] = true from decide_eq_true (by omega)]; rfl)
        clear HG HA HS HE hf HT hq
        go_wp2
        go_round
        case rel => exact ⟨k + 1, by omega, by go_num, HT2⟩
        case measure => simp [intOf]; omega
      · have q0 : (48 : Int) ≤ (v[k].toNat : Int) := by omega
        have q1 : ¬ ((v[k].toNat : Int) ≤ 57) := by omega
        have q2 : ¬ ((97 : Int) ≤ (v[k].toNat : Int)) := by omega
        have q3 : (v[k].toNat : Int) ≤ 122 := by omega
        have q4 : ¬ ((65 : Int) ≤ (v[k].toNat : Int)) := by omega
        have q5 : (v[k].toNat : Int) ≤ 90 := by omega
        have q6 : ((v[k].toNat : Int) == 45) = false := by rw [beq_eq_false_iff_ne]; omega
        have q7 : ((v[k].toNat : Int) == 46) = false := by rw [beq_eq_false_iff_ne]; omega
        have HB9 : Hid (Ac.hostB v[k] = false) := Lib.hid (decide_eq_false (by omega))
        have HN := Lib.hid (HG.out k hlt HB9.out)
        clear HG HA HS HE hf HT hq HB9
        go_wp2
        go_ret2
        rw [HN.out]; exact ⟨⟨_, rfl, fun h => by cases h⟩, Below.refl _ _⟩
      · have q0 : (48 : Int) ≤ (v[k].toNat : Int) := by omega
        have q1 : ¬ ((v[k].toNat : Int) ≤ 57) := by omega
        have q2 : ¬ ((97 : Int) ≤ (v[k].toNat : Int)) := by omega
        have q3 : (v[k].toNat : Int) ≤ 122 := by omega
        have q4 : (65 : Int) ≤ (v[k].toNat : Int) := by omega
        have q5 : (v[k].toNat : Int) ≤ 90 := by omega
        have q6 : ((v[k].toNat : Int) == 45) = false := by rw [beq_eq_false_iff_ne]; omega
        have q7 : ((v[k].toNat : Int) == 46) = false := by rw [beq_eq_false_iff_ne]; omega
        have HT2 : Hid ((v.take (k + 1)).all Ac.hostB = true) := Lib.hid (by rw [all_snoc Ac.hostB v k hlt, HT.out, show Ac.hostB v[k] = true from decide_eq_true (by omega)]; rfl)
        clear HG HA HS HE hf HT hq
        go_wp2
        go_round
        case rel => exact ⟨k + 1, by omega, by go_num, HT2⟩
        case measure => simp [intOf]; omega
      · have q0 : (48 : Int) ≤ (v[k].toNat : Int) := by omega
        have q1 : ¬ ((v[k].toNat : Int) ≤ 57) := by omega
        have q2 : ¬ ((97 : Int) ≤ (v[k].toNat : Int)) := by omega
        have q3 : (v[k].toNat : Int) ≤ 122 := by omega
        have q4 : (65 : Int) ≤ (v[k].toNat : Int) := by omega
        have q5 : ¬ ((v[k].toNat : Int) ≤ 90) := by omega
        have q6 : ((v[k].toNat : Int) == 45) = false := by rw [beq_eq_false_iff_ne]; omega
        have q7 : ((v[k].toNat : Int) == 46) = false := by rw [beq_eq_false_iff_ne]; omega
        have HB9 : Hid (Ac.hostB v[k] = false) := Lib.hid (decide_eq_false (by omega))
        have HN := Lib.hid (HG.out k hlt HB9.out)
        clear HG HA HS HE hf HT hq HB9
        go_wp2
        go_ret2
        rw [HN.out]; exact ⟨⟨_, rfl, fun h => by cases h⟩, Below.refl _ _⟩
      · have q0 : (48 : Int) ≤ (v[k].toNat : Int) := by omega
        have q1 : ¬ ((v[k].toNat : Int) ≤ 57) := by omega
        have q2 : (97 : Int) ≤ (v[k].toNat : Int) := by omega
        have q3 : (v[k].toNat : Int) ≤ 122 := by omega
        have q4 : (65 : Int) ≤ (v[k].toNat : Int) := by omega
        have q5 : ¬ ((v[k].toNat : Int) ≤ 90) := by omega
        have q6 : ((v[k].toNat : Int) == 45) = false := by rw [beq_eq_false_iff_ne]; omega
        have q7 : ((v[k].toNat : Int) == 46) = false := by rw [beq_eq_false_iff_ne]; omega
        have HT2 : Hid ((v.take (k + 1)).all Ac.hostB = true) := Lib.hid (by rw [all_snoc Ac.hostB v k hlt, HT.out, show Ac.hostB v[k] = true from decide_eq_true (by omega)]; rfl)
        clear HG HA HS HE hf HT hq
        go_wp2
        go_round
        case rel => exact ⟨k + 1, by omega, by go_num, HT2⟩
        case measure => simp [intOf]; omega
      · have q0 : (48 : Int) ≤ (v[k].toNat : Int) := by omega
        have q1 : ¬ ((v[k].toNat : Int) ≤ 57) := by omega
        have q2 : (97 : Int) ≤ (v[k].toNat : Int) := by omega
        have q3 : ¬ ((v[k].toNat : Int) ≤ 122) := by omega
        have q4 : (65 : Int) ≤ (v[k].toNat : Int) := by omega
        have q5 : ¬ ((v[k].toNat : Int) ≤ 90) := by omega
        have q6 : ((v[k].toNat : Int) == 45) = false := by rw [beq_eq_false_iff_ne]; omega
        have q7 : ((v[k].toNat : Int) == 46) = false := by rw [beq_eq_false_iff_ne]; omega
        have HB9 : Hid (Ac.hostB v[k] = false) := Lib.hid (decide_eq_false (by omega))
        have HN := Lib.hid (HG.out k hlt HB9.out)
        clear HG HA HS HE hf HT hq HB9
        go_wp2
        go_ret2
        rw [HN.out]; exact ⟨⟨_, rfl, fun h => by cases h⟩, Below.refl _ _⟩
    · obtain rfl : k = v.length := by omega
      have HGV := Lib.hid (HA.out HT.out)
      clear HG HA HT
      by_cases h46 : v[0].toNat = 46
      · have HR := Lib.hid (HS.out h46)
        have e46 : ((v[0].toNat : Int) == 46) = true := by rw [beq_iff_eq]; omega
        clear HS HE h46
        go_wp2_with fail
        refine (hf _).mono ?_
        rintro e w1 ⟨rfl, hb1⟩
        go_wp2
        go_ret2
        rw [HGV.out]; exact ⟨⟨_, rfl, fun _ => HR.out.symm⟩, hb1⟩
      · have HR := Lib.hid (HE.out h46)
        have e46 : ((v[0].toNat : Int) == 46) = false := by rw [beq_eq_false_iff_ne]; omega
        clear HS HE h46
        go_wp2_with fail
        refine (hf _).mono ?_
        rintro e w1 ⟨rfl, hb1⟩
        go_wp2
        go_ret2
        rw [HGV.out]; exact ⟨⟨_, rfl, fun _ => HR.out.symm⟩, hb1⟩
end Go.Proofs.YtgkphjbcaidcpaaGreatDoor
