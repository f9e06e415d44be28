/- ValidUnchanged: for every input within the second form's bound the law answers true and leaves its arguments as they were. Condition: the bulk of the arguments at most 1048576. -/
import Derived.Test.YtbigcdmkfcmegaaGreatDoorCards
import Derived.Test.YtbigcdmkfcmegaaGreatDoorTie
import Derived.Test.YtbigcdmkfcmegaaGreatDoorM5
import Derived.Test.YtbigcdmkfcmegaaGreatDoorM7
import Derived.Test.YtbigcdmkfcmegaaGreatDoorM20
import Derived.Test.YtbigcdmkfcmegaaGreatDoorM23
import Derived.Test.YtbigcdmkfcmegaaGreatDoorM24
import Derived.Test.YtbigcdmkfcmegaaGreatDoorM25
import Derived.Test.YtbigcdmkfcmegaaGreatDoorM26
import Derived.BigQuiet
import Derived.Deep.QuietTactic
import Derived.WalkKit
import Derived.ProofKit
import Derived.OpenShut
import Derived.JoinedCond
import Derived.Deep.DeepHandedRow
import Derived.Deep.DeepWitnessRowRef
import Derived.Lib.LaidTab
set_option linter.unusedVariables false
set_option linter.unusedSimpArgs false
set_option maxRecDepth 100000
namespace Go.Proofs.YtbigcdmkfcmegaaGreatDoor.validUnchanged
open Go.ChangeShapes Go.WideShapes Go.ChangeAt Go.RowKit

set_option maxRecDepth 100000
set_option maxHeartbeats 8000000 in
theorem walk (w : World) (Q : Option Addr) (qn qc : Nat) (ask : List Fld) (hq : RdF w Q qn ask) (hqn : qn ≤ 1048576) (hqf : ∀ f ∈ ask, f.1.length ≤ 1048576 ∧ f.2.length ≤ 1048576) (st : Int) (hs1 : -9223372036854775808 ≤ st) (hs2 : st ≤ 9223372036854775807) (rs : List UInt8) (minor : Int) (A : Option Addr) (n c : Nat) (l : List Fld) (hl : RdF w A n l) (hn : n + 3 ≤ 1048576) (hf : ∀ f ∈ l, f.1.length ≤ 1048576 ∧ f.2.length ≤ 1048576) (hnc : n ≤ c) (hcm : c ≤ maxLen) :
    Calls Tryz.prog 5 #[.slice Q qn qc, respV st rs minor A n c] w fun x w' => x = .returned (.bool true) ∧ Below w.heap.size w w' := by
  unfold respV
  replace hn : n ≤ 1048576 := by omega
  have hls : FlenS l := hf
  have hst : -9223372036854775808 ≤ st ∧ st ≤ 9223372036854775807 := ⟨hs1, hs2⟩
  have hb0 := alloc_below w (.cells #[.int .i64 st, .string (bs rs), .int .i64 minor, .slice A n c] 24)
  have hr1 := heap_alloc_new w (.cells #[.int .i64 st, .string (bs rs), .int .i64 minor, .slice A n c] 24)
  go_enter Tryz.func5, Tryz.ntmps5
  go_upto_region 1 with fail
  generalize w.alloc (.cells #[.int .i64 st, .string (bs rs), .int .i64 minor, .slice A n c] 24) = w2 at *
  replace hq := hq.step hb0
  replace hl := hl.step hb0
  have hal := alloc_below w2 (.cells #[.string (bs Val.InmN), .string (bs [42])] 37)
  have hU0 := unch_p 1048576 (some ⟨w2.heap.size, 0, none⟩) 1 1 [(Val.InmN, [42])] 200 [] 0 none 0 0 [] (w2.alloc (.cells #[.string (bs Val.InmN), .string (bs [42])] 37)) (one_rdF _ _ _ _) (by omega) (fun f hf => by rw [List.mem_singleton] at hf; subst hf; exact ⟨by decide, by decide⟩) (fun f hf => by rw [List.mem_singleton] at hf; subst hf; decide) (by omega) (by omega) (RdF.nil _ _) (by omega) (fun f hf => by cases hf)
  rw [show Val.unchL [(Val.InmN, [42])] 200 [] = true by decide +kernel] at hU0
  unfold respV at hU0
  go_wp2_with fail
  refine hU0.mono ?_
  rintro x w3 ⟨rfl, hb3⟩
  clear hU0
  replace hr1 := row_keep hr1 hal
  replace hq := hq.step hal
  replace hl := hl.step hal
  replace hb0 := bnext hb0 hal hb0.size
  clear hal
  replace hr1 := row_keep hr1 hb3
  replace hq := hq.step hb3
  replace hl := hl.step hb3
  replace hb0 := bnext hb0 hb3 hb0.size
  clear hb3
  go_wp2_with fail
  refine (copyFields_own Q qn qc ask _ hq (by omega)).mono ?_
  rintro x w4 ⟨Q1, qn1, qc1, rfl, hQ1, hb4⟩
  replace hQ1 := hQ1.rd
  replace hr1 := row_keep hr1 hb4
  replace hq := hq.step hb4
  replace hl := hl.step hb4
  replace hb0 := bnext hb0 hb4 hb0.size
  clear hb4
  obtain ⟨a0, a1, a2, a3, -⟩ := row_facts4 hr1
  have hC := copyResponse_any st rs minor A n c l w4 hl hn
  unfold respV at hC
  go_wp2_with fail
  refine hC.mono ?_
  rintro x w4b ⟨A1, n1, c1, rfl, hA1, hb4⟩
  clear hC
  clear a0 a1 a2 a3
  skip
  replace hr1 := row_keep hr1 hb4
  replace hq := hq.step hb4
  replace hl := hl.step hb4
  replace hQ1 := hQ1.step hb4
  replace hb0 := bnext hb0 hb4 hb0.size
  clear hb4
  go_upto_region 5 with fail
  have hal := alloc_below w4b (.cells #[.int .i64 st, .string (bs rs), .int .i64 minor, .slice A1 n1 c1] 24)
  have hr5 := heap_alloc_new w4b (.cells #[.int .i64 st, .string (bs rs), .int .i64 minor, .slice A1 n1 c1] 24)
  replace hr1 := row_keep hr1 hal
  replace hq := hq.step hal
  replace hl := hl.step hal
  replace hQ1 := hQ1.step hal
  replace hA1 := hA1.step hal
  replace hb0 := bnext hb0 hal hb0.size
  clear hal
  generalize w4b.alloc (.cells #[.int .i64 st, .string (bs rs), .int .i64 minor, .slice A1 n1 c1] 24) = w5 at *
  generalize w4b.heap.size = g5 at *
  have hn1 : n1 ≤ 1048576 := by have := hA1.1; have := hl.1; omega
  have hqn1 : qn1 ≤ 1048576 := by have := hQ1.1; have := hq.1; omega
  have hqo : FlenOK ask := fun f hf => by have := hqf f hf; omega
  have hqv : ∀ f ∈ ask, f.2.length ≤ 1048576 := fun f hf => (hqf f hf).2
  have hm : ∀ k, k ≤ 1048576 → k * (2 + 1048576) ≤ 4398046511104 := fun k h => Nat.le_trans (Nat.mul_le_mul h (Nat.le_refl _)) (by omega)
  have H1 : Hid (∀ W, Below w5.heap.size w5 W → Calls Tryz.prog 17 #[.slice Q1 qn1 qc1, .agg #[.int .i64 st, .string (bs rs), .int .i64 minor, .slice A1 n1 c1]] W fun x w' => x = .returned (.bool (Val.unchL ask st l)) ∧ Below W.heap.size W w') := Lib.hid fun W hb => unch_p 1048576 Q1 qn1 qc1 ask st rs minor A1 n1 c1 l W (hQ1.step hb) hqn1 hqo hqv (hm _ hqn1) (by omega) (hA1.step hb) hn1 hls
  have H2 : Hid (∀ W, Below w5.heap.size w5 W → Calls Tryz.prog 18 #[.slice Q qn qc, .agg #[.int .i64 st, .string (bs rs), .int .i64 minor, .slice A n c]] W fun x w' => x = .returned (.bool (Val.unchL ask st l)) ∧ Below W.heap.size W w') := Lib.hid fun W hb => unch_r 1048576 Q qn qc ask st rs minor A n c l W (hq.step hb) hqn hqo hqv (hm _ hqn) (by omega) (hl.step hb) hn hls
  have H3 : Hid (∀ W, Below w5.heap.size w5 W → Calls Tryz.prog 9 #[.slice Q1 qn1 qc1, .slice Q qn qc] W fun x w' => x = .returned (.bool true) ∧ Below W.heap.size W w') := Lib.hid fun W hb => by
    have h := sameFields_any Q1 Q qn1 qn qc1 qc ask ask W (hQ1.step hb) (hq.step hb) (by omega) (by omega)
    rwa [show (ask == ask) = true by simp] at h
  have H4 : Hid (∀ W, Below w5.heap.size w5 W → Calls Tryz.prog 12 #[.agg #[.int .i64 st, .string (bs rs), .int .i64 minor, .slice A1 n1 c1], .agg #[.int .i64 st, .string (bs rs), .int .i64 minor, .slice A n c]] W fun x w' => x = .returned (.bool true) ∧ Below W.heap.size W w') := Lib.hid fun W hb => sameResponse_any st rs minor A1 A n1 c1 n c l W (hA1.step hb) (hl.step hb) hn1 hn
  clear hq hl hQ1 hA1 hls hqo hqv hqf hf
  generalize Val.unchL ask st l = R at *
  refine wp_region_detN (n := 18) (S := fun L W => Below w5.heap.size w5 W) (by kernel_rfl) rfl (below_drewN (Below.refl _ _) 1) ?_
  refine' DetS.takeL (i := 0) (v := _) rfl (by kernel_rfl) (by kernel_rfl) (by kernel_rfl) (YS.pure rfl ?sd5_0 ?rd5_0) ?nd5_0
  case rd5_0 => intro L W hS; obtain ⟨k0, k1, k2, k3, -⟩ := row_facts4 (row_keep hr1 hS); obtain ⟨j0, j1, j2, j3, -⟩ := row_facts4 (row_keep hr5 hS); go_simp; first | rfl | (rw [if_neg (by omega)] <;> rfl) | (rw [if_neg (by simp; omega)] <;> rfl) | (rw [if_neg (by simp)] <;> rfl)
  case sd5_0 => exact fun L W _ h => h
  simp only [Act.put, List.setIfInBounds_toArray, List.set_cons_zero, List.set_cons_succ]
  refine' DetS.takeL (i := 1) (v := _) rfl (by kernel_rfl) (by kernel_rfl) (by kernel_rfl) (YS.pure rfl ?sd5_1 ?rd5_1) ?nd5_1
  case rd5_1 => intro L W hS; obtain ⟨k0, k1, k2, k3, -⟩ := row_facts4 (row_keep hr1 hS); obtain ⟨j0, j1, j2, j3, -⟩ := row_facts4 (row_keep hr5 hS); go_simp; first | rfl | (rw [if_neg (by omega)] <;> rfl) | (rw [if_neg (by simp; omega)] <;> rfl) | (rw [if_neg (by simp)] <;> rfl)
  case sd5_1 => exact fun L W _ h => h
  simp only [Act.put, List.setIfInBounds_toArray, List.set_cons_zero, List.set_cons_succ]
  refine' DetS.takeL (i := 2) (v := _) rfl (by kernel_rfl) (by kernel_rfl) (by kernel_rfl) (YS.call (f := _) (args := _) rfl ?rd5_2 ?cd5_2) ?nd5_2
  case rd5_2 => intro W; go_simp; constructor <;> rfl
  case cd5_2 =>
    intro L W hL hS
    refine (H1.out W hS).mono ?_
    rintro e9 w9 ⟨rfl, hb9⟩
    exact ⟨by rfl, bnext hS hb9 hS.size⟩
  simp only [Act.put, List.setIfInBounds_toArray, List.set_cons_zero, List.set_cons_succ]
  refine' DetS.takeL (i := 3) (v := _) rfl (by kernel_rfl) (by kernel_rfl) (by kernel_rfl) (YS.pure rfl ?sd5_3 ?rd5_3) ?nd5_3
  case rd5_3 => intro L W hS; obtain ⟨k0, k1, k2, k3, -⟩ := row_facts4 (row_keep hr1 hS); obtain ⟨j0, j1, j2, j3, -⟩ := row_facts4 (row_keep hr5 hS); go_simp; first | rfl | (rw [if_neg (by omega)] <;> rfl) | (rw [if_neg (by simp; omega)] <;> rfl) | (rw [if_neg (by simp)] <;> rfl)
  case sd5_3 => exact fun L W _ h => h
  simp only [Act.put, List.setIfInBounds_toArray, List.set_cons_zero, List.set_cons_succ]
  refine' DetS.takeL (i := 4) (v := _) rfl (by kernel_rfl) (by kernel_rfl) (by kernel_rfl) (YS.pure rfl ?sd5_4 ?rd5_4) ?nd5_4
  case rd5_4 => intro L W hS; obtain ⟨k0, k1, k2, k3, -⟩ := row_facts4 (row_keep hr1 hS); obtain ⟨j0, j1, j2, j3, -⟩ := row_facts4 (row_keep hr5 hS); go_simp; first | rfl | (rw [if_neg (by omega)] <;> rfl) | (rw [if_neg (by simp; omega)] <;> rfl) | (rw [if_neg (by simp)] <;> rfl)
  case sd5_4 => exact fun L W _ h => h
  simp only [Act.put, List.setIfInBounds_toArray, List.set_cons_zero, List.set_cons_succ]
  refine' DetS.takeL (i := 5) (v := _) rfl (by kernel_rfl) (by kernel_rfl) (by kernel_rfl) (YS.call (f := _) (args := _) rfl ?rd5_5 ?cd5_5) ?nd5_5
  case rd5_5 => intro W; go_simp; constructor <;> rfl
  case cd5_5 =>
    intro L W hL hS
    refine (H2.out W hS).mono ?_
    rintro e9 w9 ⟨rfl, hb9⟩
    exact ⟨by rfl, bnext hS hb9 hS.size⟩
  simp only [Act.put, List.setIfInBounds_toArray, List.set_cons_zero, List.set_cons_succ]
  refine' DetS.takeL (i := 6) (v := _) rfl (by kernel_rfl) (by kernel_rfl) (by kernel_rfl) (YS.pure rfl ?sd5_6 ?rd5_6) ?nd5_6
  case rd5_6 => intro L W hS; obtain ⟨k0, k1, k2, k3, -⟩ := row_facts4 (row_keep hr1 hS); obtain ⟨j0, j1, j2, j3, -⟩ := row_facts4 (row_keep hr5 hS); go_simp; first | rfl | (rw [if_neg (by omega)] <;> rfl) | (rw [if_neg (by simp; omega)] <;> rfl) | (rw [if_neg (by simp)] <;> rfl)
  case sd5_6 => exact fun L W _ h => h
  simp only [Act.put, List.setIfInBounds_toArray, List.set_cons_zero, List.set_cons_succ]
  refine' DetS.takeL (i := 7) (v := _) rfl (by kernel_rfl) (by kernel_rfl) (by kernel_rfl) (YS.pure rfl ?sd5_7 ?rd5_7) ?nd5_7
  case rd5_7 => intro L W hS; obtain ⟨k0, k1, k2, k3, -⟩ := row_facts4 (row_keep hr1 hS); obtain ⟨j0, j1, j2, j3, -⟩ := row_facts4 (row_keep hr5 hS); go_simp; first | rfl | (rw [if_neg (by omega)] <;> rfl) | (rw [if_neg (by simp; omega)] <;> rfl) | (rw [if_neg (by simp)] <;> rfl)
  case sd5_7 => exact fun L W _ h => h
  simp only [Act.put, List.setIfInBounds_toArray, List.set_cons_zero, List.set_cons_succ]
  refine' DetS.takeL (i := 8) (v := _) rfl (by kernel_rfl) (by kernel_rfl) (by kernel_rfl) (YS.pure rfl ?sd5_8 ?rd5_8) ?nd5_8
  case rd5_8 => intro L W hS; obtain ⟨k0, k1, k2, k3, -⟩ := row_facts4 (row_keep hr1 hS); obtain ⟨j0, j1, j2, j3, -⟩ := row_facts4 (row_keep hr5 hS); go_simp; first | rfl | (rw [if_neg (by omega)] <;> rfl) | (rw [if_neg (by simp; omega)] <;> rfl) | (rw [if_neg (by simp)] <;> rfl)
  case sd5_8 => exact fun L W _ h => h
  simp only [Act.put, List.setIfInBounds_toArray, List.set_cons_zero, List.set_cons_succ]
  refine' DetS.takeL (i := 9) (v := _) rfl (by kernel_rfl) (by kernel_rfl) (by kernel_rfl) (YS.pure rfl ?sd5_9 ?rd5_9) ?nd5_9
  case rd5_9 => intro L W hS; obtain ⟨k0, k1, k2, k3, -⟩ := row_facts4 (row_keep hr1 hS); obtain ⟨j0, j1, j2, j3, -⟩ := row_facts4 (row_keep hr5 hS); go_simp; first | rfl | (rw [if_neg (by omega)] <;> rfl) | (rw [if_neg (by simp; omega)] <;> rfl) | (rw [if_neg (by simp)] <;> rfl)
  case sd5_9 => exact fun L W _ h => h
  simp only [Act.put, List.setIfInBounds_toArray, List.set_cons_zero, List.set_cons_succ]
  refine' DetS.takeL (i := 10) (v := _) rfl (by kernel_rfl) (by kernel_rfl) (by kernel_rfl) (YS.call (f := _) (args := _) rfl ?rd5_10 ?cd5_10) ?nd5_10
  case rd5_10 => intro W; go_simp; constructor <;> rfl
  case cd5_10 =>
    intro L W hL hS
    refine (H3.out W hS).mono ?_
    rintro e9 w9 ⟨rfl, hb9⟩
    exact ⟨by rfl, bnext hS hb9 hS.size⟩
  simp only [Act.put, List.setIfInBounds_toArray, List.set_cons_zero, List.set_cons_succ]
  refine' DetS.takeL (i := 11) (v := _) rfl (by kernel_rfl) (by kernel_rfl) (by kernel_rfl) (YS.pure rfl ?sd5_11 ?rd5_11) ?nd5_11
  case rd5_11 => intro L W hS; obtain ⟨k0, k1, k2, k3, -⟩ := row_facts4 (row_keep hr1 hS); obtain ⟨j0, j1, j2, j3, -⟩ := row_facts4 (row_keep hr5 hS); go_simp; first | rfl | (rw [if_neg (by omega)] <;> rfl) | (rw [if_neg (by simp; omega)] <;> rfl) | (rw [if_neg (by simp)] <;> rfl)
  case sd5_11 => exact fun L W _ h => h
  simp only [Act.put, List.setIfInBounds_toArray, List.set_cons_zero, List.set_cons_succ]
  refine' DetS.takeL (i := 12) (v := _) rfl (by kernel_rfl) (by kernel_rfl) (by kernel_rfl) (YS.pure rfl ?sd5_12 ?rd5_12) ?nd5_12
  case rd5_12 => intro L W hS; obtain ⟨k0, k1, k2, k3, -⟩ := row_facts4 (row_keep hr1 hS); obtain ⟨j0, j1, j2, j3, -⟩ := row_facts4 (row_keep hr5 hS); go_simp; first | rfl | (rw [if_neg (by omega)] <;> rfl) | (rw [if_neg (by simp; omega)] <;> rfl) | (rw [if_neg (by simp)] <;> rfl)
  case sd5_12 => exact fun L W _ h => h
  simp only [Act.put, List.setIfInBounds_toArray, List.set_cons_zero, List.set_cons_succ]
  refine' DetS.takeL (i := 13) (v := _) rfl (by kernel_rfl) (by kernel_rfl) (by kernel_rfl) (YS.pure rfl ?sd5_13 ?rd5_13) ?nd5_13
  case rd5_13 => intro L W hS; obtain ⟨k0, k1, k2, k3, -⟩ := row_facts4 (row_keep hr1 hS); obtain ⟨j0, j1, j2, j3, -⟩ := row_facts4 (row_keep hr5 hS); go_simp; first | rfl | (rw [if_neg (by omega)] <;> rfl) | (rw [if_neg (by simp; omega)] <;> rfl) | (rw [if_neg (by simp)] <;> rfl)
  case sd5_13 => exact fun L W _ h => h
  simp only [Act.put, List.setIfInBounds_toArray, List.set_cons_zero, List.set_cons_succ]
  refine' DetS.takeL (i := 14) (v := _) rfl (by kernel_rfl) (by kernel_rfl) (by kernel_rfl) (YS.pure rfl ?sd5_14 ?rd5_14) ?nd5_14
  case rd5_14 => intro L W hS; obtain ⟨k0, k1, k2, k3, -⟩ := row_facts4 (row_keep hr1 hS); obtain ⟨j0, j1, j2, j3, -⟩ := row_facts4 (row_keep hr5 hS); go_simp; first | rfl | (rw [if_neg (by omega)] <;> rfl) | (rw [if_neg (by simp; omega)] <;> rfl) | (rw [if_neg (by simp)] <;> rfl)
  case sd5_14 => exact fun L W _ h => h
  simp only [Act.put, List.setIfInBounds_toArray, List.set_cons_zero, List.set_cons_succ]
  refine' DetS.takeL (i := 15) (v := _) rfl (by kernel_rfl) (by kernel_rfl) (by kernel_rfl) (YS.call (f := _) (args := _) rfl ?rd5_15 ?cd5_15) ?nd5_15
  case rd5_15 => intro W; go_simp; constructor <;> rfl
  case cd5_15 =>
    intro L W hL hS
    refine (H4.out W hS).mono ?_
    rintro e9 w9 ⟨rfl, hb9⟩
    exact ⟨by rfl, bnext hS hb9 hS.size⟩
  simp only [Act.put, List.setIfInBounds_toArray, List.set_cons_zero, List.set_cons_succ]
  refine' DetS.takeL (i := 16) (v := _) rfl (by kernel_rfl) (by kernel_rfl) (by kernel_rfl) (YS.pure rfl ?sd5_16 ?rd5_16) ?nd5_16
  case rd5_16 => intro L W hS; obtain ⟨k0, k1, k2, k3, -⟩ := row_facts4 (row_keep hr1 hS); obtain ⟨j0, j1, j2, j3, -⟩ := row_facts4 (row_keep hr5 hS); go_simp; first | rfl | (rw [if_neg (by omega)] <;> rfl) | (rw [if_neg (by simp; omega)] <;> rfl) | (rw [if_neg (by simp)] <;> rfl)
  case sd5_16 => exact fun L W _ h => h
  simp only [Act.put, List.setIfInBounds_toArray, List.set_cons_zero, List.set_cons_succ]
  refine' DetS.takeL (i := 17) (v := _) rfl (by kernel_rfl) (by kernel_rfl) (by kernel_rfl) (YS.pure rfl ?sd5_17 ?rd5_17) ?nd5_17
  case rd5_17 => intro L W hS; obtain ⟨k0, k1, k2, k3, -⟩ := row_facts4 (row_keep hr1 hS); obtain ⟨j0, j1, j2, j3, -⟩ := row_facts4 (row_keep hr5 hS); go_simp; first | rfl | (rw [if_neg (by omega)] <;> rfl) | (rw [if_neg (by simp; omega)] <;> rfl) | (rw [if_neg (by simp)] <;> rfl)
  case sd5_17 => exact fun L W _ h => h
  simp only [Act.put, List.setIfInBounds_toArray, List.set_cons_zero, List.set_cons_succ]
  refine DetS.done (by kernel_rfl) (fun W hS => ?_) _
  have hbW := bnext hb0 hS hb0.size
  clear hS
  go_wp2
  go_ret
  exact ⟨rfl, hbW⟩

theorem own : ownKnob Tryz.prog.godebug = none := by kernel_rfl
theorem contract (H : Type) (enc : TypeId × Value → H) (W : World) (base : Nat) (args : Array Value) (ds gs : List (DataW H)) (before : List MemPlace)
    (hval : ∀ (j : Nat) t v, Tryz.f5.params[j]? = some t → args[j]? = some v → Value.okWide Tryz.prog W .any base t v)
    (hW : DataW.Whole enc Tryz.prog Tryz.f5.params.toList Rows.validUnchangedSpec.vars false W args.toList ds gs before) (hk : Rows.uptoSmall H (ds ++ gs) = true) :
    Calls Tryz.prog 5 args W fun e W' => ∃ v, e = .returned v ∧ Rows.validUnchangedSpec.post enc Tryz.prog Tryz.f5 false true false false W args v W' := by
  have hW' := hW
  obtain ⟨p, q, hA0, hV, rfl, hfz, hnd⟩ := hW
  have hA : DataW.TrodAll enc Tryz.prog W 0 (fun _ => true) true Tryz.f5.params.toList args.toList ds p := hA0
  rw [Tryz.params5] at hA hval
  obtain ⟨v0, vs0, d0, ds0, p0, q0, hargs, rfl, rfl, h0, r0⟩ := trodAll_cons hA
  obtain ⟨v1, vs1, d1, ds1, p1, q1, rfl, rfl, rfl, h1, r1⟩ := trodAll_cons r0
  obtain ⟨rfl, rfl, rfl⟩ := trodAll_nil r1
  obtain rfl : args = #[v0, v1] := by cases args; simp_all
  obtain ⟨rfl, rfl⟩ := trodVars_none hV
  have hall := bulks.bound hk
  simp only [List.append_nil, Rows.uptoBulkAll] at hall
  have hb0 : Rows.uptoBulk d0 ≤ 1048576 := by omega
  have hb1 : Rows.uptoBulk d1 ≤ 1048576 := by omega
  clear hall
  obtain ⟨A0, n0, c0, l0, rfl, hr0, hn0, hf0⟩ := opF (hval 0 22 v0 rfl rfl) h0 hb0
  obtain ⟨st1, rs1, x1, A1, n1, c1, l1, rfl, hr1, hn1, hf1, hc1, hd1, hs1, ht1⟩ := opResp (hval 1 24 v1 rfl rfl) h1 hb1
  clear hA0
  refine (walk W A0 n0 c0 l0 hr0 hn0 hf0 st1 hs1 ht1 rs1 x1 A1 n1 c1 l1 hr1 hn1 hf1 hc1 hd1).mono fun e W' ⟨he, hg⟩ => ?_
  subst he
  exact ⟨_, rfl, post_of_below (pa := p0 ++ (p1 ++ ([]))) (pv := []) hW' (fun _ _ _ => (trodAll_cons_mk (shut_bool Tryz.underlying4 _) trodAll_mk0)) (fun sp hsp => (trodAll_cons_mk (arg_stays laidOut (by kernel_rfl) (of_decide_eq_true (by kernel_rfl)) h0 hg (fun x hx => hW'.lt x (by simp [hx])) sp (fun x hx => hsp x (by simp [hx]))) (trodAll_cons_mk (arg_stays laidOut (by kernel_rfl) (of_decide_eq_true (by kernel_rfl)) h1 hg (fun x hx => hW'.lt x (by simp [hx])) sp (fun x hx => hsp x (by simp [hx]))) trodAll_mk0))) (fun _ _ => rfl) rfl
    hg (ok_one (by kernel_rfl) rfl (okWide_bool_mk Tryz.underlying4 _))⟩

/-- A world for the witness: the settled one, the listed variables holding what the program lays. -/
noncomputable def laidWorld (os : Os) : World :=
  { (World.holding Tryz.prog os ⟨#[.cells #[.string ⟨#[118, 97, 108, 117, 101, 32, 111, 117, 116, 32, 111, 102, 32, 114, 97, 110, 103, 101]⟩] 144, .cells #[.string ⟨#[105, 110, 118, 97, 108, 105, 100, 32, 115, 121, 110, 116, 97, 120]⟩] 144], #[], []⟩) with heap := ((((((((World.holding Tryz.prog os ⟨#[.cells #[.string ⟨#[118, 97, 108, 117, 101, 32, 111, 117, 116, 32, 111, 102, 32, 114, 97, 110, 103, 101]⟩] 144, .cells #[.string ⟨#[105, 110, 118, 97, 108, 105, 100, 32, 115, 121, 110, 116, 97, 120]⟩] 144], #[], []⟩).heap.modify 6 fun
      | .cells _ t frozen => .cells #[.int .u8 0, .int .u8 1, .int .u8 28, .int .u8 2, .int .u8 29, .int .u8 14, .int .u8 24, .int .u8 3, .int .u8 30, .int .u8 22, .int .u8 20, .int .u8 15, .int .u8 25, .int .u8 17, .int .u8 4, .int .u8 8, .int .u8 31, .int .u8 27, .int .u8 13, .int .u8 23, .int .u8 21, .int .u8 19, .int .u8 16, .int .u8 7, .int .u8 26, .int .u8 12, .int .u8 18, .int .u8 6, .int .u8 11, .int .u8 5, .int .u8 10, .int .u8 9] t frozen
      | o => o).modify 7 fun
      | .cells _ t frozen => .cells #[.int .u8 0, .int .u8 1, .int .u8 56, .int .u8 2, .int .u8 57, .int .u8 49, .int .u8 28, .int .u8 3, .int .u8 61, .int .u8 58, .int .u8 42, .int .u8 50, .int .u8 38, .int .u8 29, .int .u8 17, .int .u8 4, .int .u8 62, .int .u8 47, .int .u8 59, .int .u8 36, .int .u8 45, .int .u8 43, .int .u8 51, .int .u8 22, .int .u8 53, .int .u8 39, .int .u8 33, .int .u8 30, .int .u8 24, .int .u8 18, .int .u8 12, .int .u8 5, .int .u8 63, .int .u8 55, .int .u8 48, .int .u8 27, .int .u8 60, .int .u8 41, .int .u8 37, .int .u8 16, .int .u8 46, .int .u8 35, .int .u8 44, .int .u8 21, .int .u8 52, .int .u8 32, .int .u8 23, .int .u8 11, .int .u8 54, .int .u8 26, .int .u8 40, .int .u8 15, .int .u8 34, .int .u8 20, .int .u8 31, .int .u8 10, .int .u8 25, .int .u8 14, .int .u8 19, .int .u8 9, .int .u8 13, .int .u8 8, .int .u8 7, .int .u8 6] t frozen
      | o => o).modify 5 fun
      | .cells _ t frozen => .cells #[.int .u64 1, .int .u64 10, .int .u64 100, .int .u64 1000, .int .u64 10000, .int .u64 100000, .int .u64 1000000, .int .u64 10000000, .int .u64 100000000, .int .u64 1000000000, .int .u64 10000000000, .int .u64 100000000000, .int .u64 1000000000000, .int .u64 10000000000000, .int .u64 100000000000000, .int .u64 1000000000000000, .int .u64 10000000000000000, .int .u64 100000000000000000, .int .u64 1000000000000000000, .int .u64 10000000000000000000] t frozen
      | o => o).modify 4 fun
      | .cells _ t frozen => .cells #[.int .u8 128, .int .u8 191, .int .u8 160, .int .u8 191, .int .u8 128, .int .u8 159, .int .u8 144, .int .u8 191, .int .u8 128, .int .u8 143, .int .u8 0, .int .u8 0, .int .u8 0, .int .u8 0, .int .u8 0, .int .u8 0, .int .u8 0, .int .u8 0, .int .u8 0, .int .u8 0, .int .u8 0, .int .u8 0, .int .u8 0, .int .u8 0, .int .u8 0, .int .u8 0, .int .u8 0, .int .u8 0, .int .u8 0, .int .u8 0, .int .u8 0, .int .u8 0] t frozen
      | o => o).modify 2 fun
      | .cells _ t frozen => .cells #[.iface 142 (.pointer (some ⟨(World.settled Tryz.prog os).heap.size + 0, 0, none⟩))] t frozen
      | o => o).modify 1 fun
      | .cells _ t frozen => .cells #[.iface 142 (.pointer (some ⟨(World.settled Tryz.prog os).heap.size + 1, 0, none⟩))] t frozen
      | o => o).modify 3 fun
      | .cells _ t frozen => .cells (Go.Pinned.utf8FirstZ.map fun (n : Nat) => Value.int .u8 (n : Int)).toArray t frozen
      | o => o) }
theorem laid_met (os : Os) : laidMet Tryz.prog Rows.validUnchangedUptoRow.laid ((laidWorld os).forCall (fun _ _ => 0) ⟨#[], #[.slice none 0 0, .agg #[.int .i64 0, .string ⟨#[]⟩, .int .i64 0, .slice none 0 0]], []⟩).memory :=
  laidMet_of_run' 8 (by kernel_rfl) (by kernel_rfl)

theorem reads (os : Os) {H : Type} (enc : TypeId × Value → H) : ∃ places, DataW.whole enc Tryz.prog ((laidWorld os).forCall (fun _ _ => 0) ⟨#[], #[.slice none 0 0, .agg #[.int .i64 0, .string ⟨#[]⟩, .int .i64 0, .slice none 0 0]], []⟩).memory Tryz.f5.params.toList Rows.validUnchangedSpec.vars false #[.slice none 0 0, .agg #[.int .i64 0, .string ⟨#[]⟩, .int .i64 0, .slice none 0 0]].toList 8 = some ([.nil, .agg [.lit (.int .i64 0), .lit (.string []), .lit (.int .i64 0), .nil]], [], places) :=
  ⟨[], by kernel_rfl⟩

set_option maxRecDepth 100000 in
theorem liftedUpto (os : Os) (started : os.Started) (H : Type) (enc : TypeId × Value → H) (F : Stop.Interp) :
    ReturnsInHanded {} Tryz.checked os 5 .any ((Rows.OpenSpec.upto Rows.validUnchangedSpec).preRow enc Tryz.prog Tryz.f5 Rows.validUnchangedUptoRow.domain false Rows.validUnchangedUptoRow.laid) (((Rows.OpenSpec.upto Rows.validUnchangedSpec).at F).post enc Tryz.prog Tryz.f5 false true false false) := by
  obtain ⟨places, hx⟩ := reads os enc
  refine returnsInHanded_of_row (C := Tryz.checked) (s := Rows.OpenSpec.upto Rows.validUnchangedSpec) own started (by kernel_rfl) Tryz.func5
    (witness_row_atRef (enc := enc) (C := Tryz.checked) false (laidWorld os) #[.slice none 0 0, .agg #[.int .i64 0, .string ⟨#[]⟩, .int .i64 0, .slice none 0 0]] rfl (by kernel_rfl) (by kernel_rfl) (by kernel_rfl)
      (OpenSpec.preRow_of_cond 8 hx (by kernel_rfl) (fun k hk => by cases hk; kernel_rfl) (by kernel_rfl) (laid_met os))) ?_
  intro W base args ds gs before hval hW g1 hcond g2 g3 g4 g5
  exact contract H enc W base args ds gs before hval hW (hcond _ rfl)

theorem saidUpto : Rows.ValidUnchangedUptoSaid :=
  OpenClaim.holds_of_cond 5 Tryz.f5 rfl rfl rfl rfl rfl rfl rfl ⟨rfl, rfl, rfl, rfl, rfl⟩ rfl rfl rfl rfl rfl (by kernel_rfl) Tryz.func5 (by kernel_rfl)
    (of_decide_eq_true (by kernel_rfl)) (by unfold Func.isWrapper; first | (rw [if_pos (by decide +kernel)]; kernel_rfl) | (rw [if_neg (by decide +kernel)]; exact ⟨rfl, rfl⟩))
    (fun os started H enc _ F => by rw [OpenClaim.pre_eq_preRow]; exact liftedUpto os started H enc F)

theorem plain (f : FuncId) (fn : Func) (hf : Tryz.pinned.checked.prog.funcNamed "conduit/conduitlaw18.ValidUnchanged" = some f) (hfn : Tryz.pinned.checked.prog.funcs[f]? = some fn) :
    true = Tryz.pinned.checked.prog.looks [] ∧ ∀ (j : Nat) t, fn.params[j]? = some t → Tryz.pinned.checked.prog.wantsStandIn t = false := by
  obtain rfl : f = 5 := Option.some.inj ((show Tryz.prog.funcNamed "conduit/conduitlaw18.ValidUnchanged" = some 5 by kernel_rfl).symm.trans hf) |>.symm
  obtain rfl : fn = Tryz.f5 := (Option.some.inj (Tryz.func5.symm.trans hfn)).symm
  refine ⟨by kernel_rfl, fun j t ht => ?_⟩
  rw [Tryz.params5] at ht
  have hm := Array.mem_of_getElem? ht
  simp only [List.mem_toArray, List.mem_cons, List.not_mem_nil, or_false] at hm
  rcases hm with rfl | rfl
  · exact (show Tryz.prog.wantsStandIn 22 = false by kernel_rfl)
  · exact (show Tryz.prog.wantsStandIn 24 = false by kernel_rfl)

theorem proved : Rows.ValidUnchangedUptoCardSaid :=
  Claim7.holds_tied_plain_at .later [] _ _ _ _ saidUpto (fun _ h => by cases h) (by kernel_rfl) (fun _ h => by cases h) validUnchangedUpto_row_tie rfl ⟨rfl, rfl⟩ (by kernel_rfl) rfl plain (by kernel_rfl)
end Go.Proofs.YtbigcdmkfcmegaaGreatDoor.validUnchanged
