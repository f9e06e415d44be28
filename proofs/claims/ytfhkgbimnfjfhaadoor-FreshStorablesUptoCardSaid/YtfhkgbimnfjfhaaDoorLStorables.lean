import Derived.Test.YtfhkgbimnfjfhaaDoorCards
import Derived.Test.YtfhkgbimnfjfhaaDoorTie
import Derived.Test.YtfhkgbimnfjfhaaDoorSto
import Derived.Test.YtfhkgbimnfjfhaaDoorStoR
import Derived.Test.YtfhkgbimnfjfhaaDoorOpenR
import Derived.Test.YtfhkgbimnfjfhaaDoorBulk
import Derived.WalkKit
import Derived.ProofKit
import Derived.OpenShut
import Derived.JoinedCond
import Derived.Deep.DeepHandedRow
import Derived.Deep.DeepWitnessRowRef
import Derived.Lib.LaidTab
/- FreshStorables: for every input within the second form's bound the law answers true and leaves its arguments as they were. Condition: the bulk of the arguments at most 1048576. -/
set_option linter.unusedVariables false
set_option linter.unusedSimpArgs false
set_option maxRecDepth 100000
namespace Go.Proofs.YtfhkgbimnfjfhaaDoor.freshStorables
open Go.ChangeShapes Go.WideShapes Go.ChangeAt Go.RowKit

set_option maxRecDepth 100000
set_option maxHeartbeats 4000000 in
theorem walk (w : World) (hM : MaxL w) (m t : List UInt8) (minor : Int) (A : Option Addr) (n c : Nat) (l : List Fld) (hA : RdF w A n l) (hn : n + 3 ≤ 1048576) (hf : ∀ f ∈ l, f.1.length ≤ 1048576 ∧ f.2.length ≤ 1048576) (hnc : n ≤ c) (hcm : c ≤ maxLen)
    (st : Int) (hs1 : -9223372036854775808 ≤ st) (hs2 : st ≤ 9223372036854775807) (rs : List UInt8) (minor' : Int) (A' : Option Addr) (n' c' : Nat) (l' : List Fld) (hA' : RdF w A' n' l') (hn' : n' + 3 ≤ 1048576) (hf' : ∀ f ∈ l', f.1.length ≤ 1048576 ∧ f.2.length ≤ 1048576) (hnc' : n' ≤ c') (hcm' : c' ≤ maxLen) :
    Calls Tryd.prog 3 #[reqV m t minor A n c, respV st rs minor' A' n' c'] w fun e w' => e = .returned (.bool true) ∧ Below w.heap.size w w' := by
  unfold reqV respV
  replace hn : n ≤ 1048576 := by omega
  replace hn' : n' ≤ 1048576 := by omega
  have hls : FlenS l := hf
  have hls' : FlenS l' := hf'
  have hal1 := alloc_below w (.cells #[.string (bs m), .string (bs t), .int .i64 minor, .slice A n c] 24)
  have hr1 := heap_alloc_new w (.cells #[.string (bs m), .string (bs t), .int .i64 minor, .slice A n c] 24)
  have hal2 := alloc_below (w.alloc (.cells #[.string (bs m), .string (bs t), .int .i64 minor, .slice A n c] 24)) (.cells #[.int .i64 st, .string (bs rs), .int .i64 minor', .slice A' n' c'] 26)
  have hb := bnext hal1 hal2 hal1.size
  have hr2 := heap_alloc_new (w.alloc (.cells #[.string (bs m), .string (bs t), .int .i64 minor, .slice A n c] 24)) (.cells #[.int .i64 st, .string (bs rs), .int .i64 minor', .slice A' n' c'] 26)
  rw [show (w.alloc (.cells #[.string (bs m), .string (bs t), .int .i64 minor, .slice A n c] 24)).heap.size = w.heap.size + 1 by simp] at hr2
  replace hr1 := row_keep hr1 hal2
  replace hA := hA.step hb
  replace hA' := hA'.step hb
  replace hM := maxl_b hM hb
  clear hal1 hal2 hf hf'
  have hst : -9223372036854775808 ≤ st ∧ st ≤ 9223372036854775807 := ⟨hs1, hs2⟩
  go_enter Tryd.func3, Tryd.ntmps3
  go_upto_region 1 with fail
  generalize (w.alloc (.cells #[.string (bs m), .string (bs t), .int .i64 minor, .slice A n c] 24)).alloc (.cells #[.int .i64 st, .string (bs rs), .int .i64 minor', .slice A' n' c'] 26) = w2 at *
  have hS0 := storable_any Ctl.getN [] 0 none 0 0 [] 200 [] 0 none 0 0 [] w2 hM (RdF.nil _ _) (by omega) (fun f hf => by cases hf) (RdF.nil _ _) (by omega) (fun f hf => by cases hf) (by omega)
  rw [Ctl.stor_one] at hS0
  unfold reqV respV at hS0
  go_wp2_with fail
  refine hS0.mono ?_
  rintro e w3 ⟨rfl, hb3⟩
  replace hr1 := row_keep hr1 hb3
  replace hr2 := row_keep hr2 hb3
  replace hA := hA.step hb3
  replace hA' := hA'.step hb3
  replace hM := maxl_b hM hb3
  replace hb := bnext hb hb3 hb.size
  clear hb3 hS0
  go_upto_region 3 with fail
  obtain ⟨a0, a1, a2, a3, -⟩ := row_facts4 hr1
  have hC1 := copyRequest_any m t minor A n c l w3 hA hn
  unfold reqV at hC1
  go_wp2_with fail
  refine hC1.mono ?_
  rintro e w4 ⟨A1, n1, c1, rfl, hA1, hb4⟩
  go_upto_region 4 with fail
  clear hC1 a0 a1 a2 a3
  replace hr1 := row_keep hr1 hb4
  replace hr2 := row_keep hr2 hb4
  replace hA := hA.step hb4
  replace hA' := hA'.step hb4
  replace hM := maxl_b hM hb4
  replace hb := bnext hb hb4 hb.size
  clear hb4
  have hn1 : n1 ≤ 1048576 := by have := hA1.1; have := hA.1; omega
  have hal := alloc_below w4 (.cells #[.string (bs m), .string (bs t), .int .i64 minor, .slice A1 n1 c1] 24)
  have hr5 := heap_alloc_new w4 (.cells #[.string (bs m), .string (bs t), .int .i64 minor, .slice A1 n1 c1] 24)
  generalize w4.alloc (.cells #[.string (bs m), .string (bs t), .int .i64 minor, .slice A1 n1 c1] 24) = w5 at *
  replace hA1 := hA1.step hal
  replace hr1 := row_keep hr1 hal
  replace hr2 := row_keep hr2 hal
  replace hA := hA.step hal
  replace hA' := hA'.step hal
  replace hM := maxl_b hM hal
  replace hb := bnext hb hal hb.size
  clear hal
  generalize w4.heap.size = g5 at *
  obtain ⟨b0, b1, b2, b3, -⟩ := row_facts4 hr2
  have hC2 := copyResponse_any st rs minor' A' n' c' l' w5 hA' hn'
  unfold respV at hC2
  go_wp2_with fail
  refine hC2.mono ?_
  rintro e w6 ⟨A2, n2, c2, rfl, hA2, hb6⟩
  go_upto_region 5 with fail
  clear hC2 b0 b1 b2 b3
  replace hA1 := hA1.step hb6
  replace hr1 := row_keep hr1 hb6
  replace hr2 := row_keep hr2 hb6
  replace hr5 := row_keep hr5 hb6
  replace hA := hA.step hb6
  replace hA' := hA'.step hb6
  replace hM := maxl_b hM hb6
  replace hb := bnext hb hb6 hb.size
  clear hb6
  have hn2 : n2 ≤ 1048576 := by have := hA2.1; have := hA'.1; omega
  have hal := alloc_below w6 (.cells #[.int .i64 st, .string (bs rs), .int .i64 minor', .slice A2 n2 c2] 26)
  have hr6 := heap_alloc_new w6 (.cells #[.int .i64 st, .string (bs rs), .int .i64 minor', .slice A2 n2 c2] 26)
  generalize w6.alloc (.cells #[.int .i64 st, .string (bs rs), .int .i64 minor', .slice A2 n2 c2] 26) = w7 at *
  replace hA1 := hA1.step hal
  replace hA2 := hA2.step hal
  replace hr1 := row_keep hr1 hal
  replace hr2 := row_keep hr2 hal
  replace hr5 := row_keep hr5 hal
  replace hA := hA.step hal
  replace hA' := hA'.step hal
  replace hM := maxl_b hM hal
  replace hb := bnext hb hal hb.size
  clear hal
  generalize w6.heap.size = g6 at *
  have hC1 : ∀ W, Below w7.heap.size w7 W → Calls Tryd.prog 5 #[.agg #[.string (bs m), .string (bs t), .int .i64 minor, .slice A1 n1 c1], .agg #[.int .i64 st, .string (bs rs), .int .i64 minor', .slice A2 n2 c2]] W fun e w' => e = .returned (.bool (Ctl.storL m l st l')) ∧ Below W.heap.size W w' := fun W h => storable_any m t minor A1 n1 c1 l st rs minor' A2 n2 c2 l' W (maxl_b hM h) (hA1.step h) hn1 hls (hA2.step h) hn2 hls' hst
  have hC2 : ∀ W, Below w7.heap.size w7 W → Calls Tryd.prog 8 #[.agg #[.string (bs m), .string (bs t), .int .i64 minor, .slice A n c], .agg #[.int .i64 st, .string (bs rs), .int .i64 minor', .slice A' n' c']] W fun e w' => e = .returned (.bool (Ctl.storL m l st l')) ∧ Below W.heap.size W w' := fun W h => storableR_any m t minor A n c l st rs minor' A' n' c' l' W (hA.step h) hn hls (hA'.step h) hn' hls' hst
  have hC3 : ∀ W, Below w7.heap.size w7 W → Calls Tryd.prog 9 #[.agg #[.string (bs m), .string (bs t), .int .i64 minor, .slice A1 n1 c1], .agg #[.string (bs m), .string (bs t), .int .i64 minor, .slice A n c]] W fun e w' => e = .returned (.bool true) ∧ Below W.heap.size W w' := fun W h => sameRequest_any m t minor A1 A n1 c1 n c l W (hA1.step h) (hA.step h) hn1 hn
  have hC4 : ∀ W, Below w7.heap.size w7 W → Calls Tryd.prog 10 #[.agg #[.int .i64 st, .string (bs rs), .int .i64 minor', .slice A2 n2 c2], .agg #[.int .i64 st, .string (bs rs), .int .i64 minor', .slice A' n' c']] W fun e w' => e = .returned (.bool true) ∧ Below W.heap.size W w' := fun W h => sameResponse_any st rs minor' A2 A' n2 c2 n' c' l' W (hA2.step h) (hA'.step h) hn2 hn'
  generalize Ctl.storL m l st l' = R at *
  have hC1 := Lib.hid hC1
  have hC2 := Lib.hid hC2
  have hC3 := Lib.hid hC3
  have hC4 := Lib.hid hC4
  refine DA.wp_region (n := 18) (V := DA.VK [some (.agg #[.string (bs m), .string (bs t), .int .i64 minor, .slice A1 n1 c1]), some (.agg #[.int .i64 st, .string (bs rs), .int .i64 minor', .slice A2 n2 c2]), some (.bool R), some (.agg #[.string (bs m), .string (bs t), .int .i64 minor, .slice A n c]), some (.agg #[.int .i64 st, .string (bs rs), .int .i64 minor', .slice A' n' c']), some (.bool R), some (.bool true), some (.bool true), some (.agg #[.string (bs m), .string (bs t), .int .i64 minor, .slice A1 n1 c1]), some (.agg #[.string (bs m), .string (bs t), .int .i64 minor, .slice A n c]), some (.bool true), some (.bool true), some (.bool true), some (.agg #[.int .i64 st, .string (bs rs), .int .i64 minor', .slice A2 n2 c2]), some (.agg #[.int .i64 st, .string (bs rs), .int .i64 minor', .slice A' n' c']), some (.bool true), some (.bool true), some (.bool true)]) (S := DA.SB w7 32 []) (by kernel_rfl) rfl (DA.SB.start rfl) ?_
  refine' DA.Det.takeE (i := 0) (v := _) rfl (fun _ => Iff.rfl) (by kernel_rfl) (by kernel_rfl) (by kernel_rfl) (DA.YS.pure rfl rfl ?rp0 ?sp0) ?np0
  case rp0 => intro a' L W hS; obtain ⟨k0, k1, k2, k3, -⟩ := row_facts4 (row_keep hr5 hS.1); go_simp; first | rfl | skip
  case sp0 => exact fun a' L W _ h => h.other (by simp) (Below.refl _ _)
  try simp only [Act.put, List.setIfInBounds_toArray, List.set_cons_zero, List.set_cons_succ]
  refine' DA.Det.takeE (i := 1) (v := _) rfl (fun _ => Iff.rfl) (by kernel_rfl) (by kernel_rfl) (by kernel_rfl) (DA.YS.pure rfl rfl ?rp1 ?sp1) ?np1
  case rp1 => intro a' L W hS; obtain ⟨k0, k1, k2, k3, -⟩ := row_facts4 (row_keep hr6 hS.1); go_simp; first | rfl | skip
  case sp1 => exact fun a' L W _ h => h.other (by simp) (Below.refl _ _)
  try simp only [Act.put, List.setIfInBounds_toArray, List.set_cons_zero, List.set_cons_succ]
  refine' DA.Det.takeE (i := 2) (v := _) rfl (fun _ => Iff.rfl) (by kernel_rfl) (by kernel_rfl) (by kernel_rfl) (DA.YS.call (f := _) (args := _) rfl ?rp2 ?cp2) ?np2
  case rp2 => intro W; go_simp; constructor <;> rfl
  case cp2 =>
    intro a' L W hL hS
    refine (hC1.out W hS.1).mono ?_
    rintro e w9 ⟨rfl, hb9⟩
    exact ⟨_, rfl, rfl, hS.other (by simp) hb9⟩
  try simp only [Act.put, List.setIfInBounds_toArray, List.set_cons_zero, List.set_cons_succ]
  refine' DA.Det.takeE (i := 3) (v := _) rfl (fun _ => Iff.rfl) (by kernel_rfl) (by kernel_rfl) (by kernel_rfl) (DA.YS.pure rfl rfl ?rp3 ?sp3) ?np3
  case rp3 => intro a' L W hS; obtain ⟨k0, k1, k2, k3, -⟩ := row_facts4 (row_keep hr1 hS.1); go_simp; first | rfl | skip
  case sp3 => exact fun a' L W _ h => h.other (by simp) (Below.refl _ _)
  try simp only [Act.put, List.setIfInBounds_toArray, List.set_cons_zero, List.set_cons_succ]
  refine' DA.Det.takeE (i := 4) (v := _) rfl (fun _ => Iff.rfl) (by kernel_rfl) (by kernel_rfl) (by kernel_rfl) (DA.YS.pure rfl rfl ?rp4 ?sp4) ?np4
  case rp4 => intro a' L W hS; obtain ⟨k0, k1, k2, k3, -⟩ := row_facts4 (row_keep hr2 hS.1); go_simp; first | rfl | skip
  case sp4 => exact fun a' L W _ h => h.other (by simp) (Below.refl _ _)
  try simp only [Act.put, List.setIfInBounds_toArray, List.set_cons_zero, List.set_cons_succ]
  refine' DA.Det.takeE (i := 5) (v := _) rfl (fun _ => Iff.rfl) (by kernel_rfl) (by kernel_rfl) (by kernel_rfl) (DA.YS.call (f := _) (args := _) rfl ?rp5 ?cp5) ?np5
  case rp5 => intro W; go_simp; constructor <;> rfl
  case cp5 =>
    intro a' L W hL hS
    refine (hC2.out W hS.1).mono ?_
    rintro e w9 ⟨rfl, hb9⟩
    exact ⟨_, rfl, rfl, hS.other (by simp) hb9⟩
  try simp only [Act.put, List.setIfInBounds_toArray, List.set_cons_zero, List.set_cons_succ]
  refine' DA.Det.takeE (i := 6) (v := _) rfl (fun _ => Iff.rfl) (by kernel_rfl) (by kernel_rfl) (by kernel_rfl) (DA.YS.pure rfl rfl ?rp6 ?sp6) ?np6
  case rp6 => intro a' L W hS; go_simp; first | rfl | skip
  case sp6 => exact fun a' L W _ h => h.other (by simp) (Below.refl _ _)
  try simp only [Act.put, List.setIfInBounds_toArray, List.set_cons_zero, List.set_cons_succ]
  refine' DA.Det.takeE (i := 7) (v := _) rfl (fun _ => Iff.rfl) (by kernel_rfl) (by kernel_rfl) (by kernel_rfl) (DA.YS.pure rfl rfl ?rp7 ?sp7) ?np7
  case rp7 => intro a' L W hS; go_simp; first | rfl | skip
  case sp7 => exact fun a' L W _ h => h.other (by simp) (Below.refl _ _)
  try simp only [Act.put, List.setIfInBounds_toArray, List.set_cons_zero, List.set_cons_succ]
  refine' DA.Det.takeE (i := 8) (v := _) rfl (fun _ => Iff.rfl) (by kernel_rfl) (by kernel_rfl) (by kernel_rfl) (DA.YS.pure rfl rfl ?rp8 ?sp8) ?np8
  case rp8 => intro a' L W hS; obtain ⟨k0, k1, k2, k3, -⟩ := row_facts4 (row_keep hr5 hS.1); go_simp; first | rfl | skip
  case sp8 => exact fun a' L W _ h => h.other (by simp) (Below.refl _ _)
  try simp only [Act.put, List.setIfInBounds_toArray, List.set_cons_zero, List.set_cons_succ]
  refine' DA.Det.takeE (i := 9) (v := _) rfl (fun _ => Iff.rfl) (by kernel_rfl) (by kernel_rfl) (by kernel_rfl) (DA.YS.pure rfl rfl ?rp9 ?sp9) ?np9
  case rp9 => intro a' L W hS; obtain ⟨k0, k1, k2, k3, -⟩ := row_facts4 (row_keep hr1 hS.1); go_simp; first | rfl | skip
  case sp9 => exact fun a' L W _ h => h.other (by simp) (Below.refl _ _)
  try simp only [Act.put, List.setIfInBounds_toArray, List.set_cons_zero, List.set_cons_succ]
  refine' DA.Det.takeE (i := 10) (v := _) rfl (fun _ => Iff.rfl) (by kernel_rfl) (by kernel_rfl) (by kernel_rfl) (DA.YS.call (f := _) (args := _) rfl ?rp10 ?cp10) ?np10
  case rp10 => intro W; go_simp; constructor <;> rfl
  case cp10 =>
    intro a' L W hL hS
    refine (hC3.out W hS.1).mono ?_
    rintro e w9 ⟨rfl, hb9⟩
    exact ⟨_, rfl, rfl, hS.other (by simp) hb9⟩
  try simp only [Act.put, List.setIfInBounds_toArray, List.set_cons_zero, List.set_cons_succ]
  refine' DA.Det.takeE (i := 11) (v := _) rfl (fun _ => Iff.rfl) (by kernel_rfl) (by kernel_rfl) (by kernel_rfl) (DA.YS.pure rfl rfl ?rp11 ?sp11) ?np11
  case rp11 => intro a' L W hS; go_simp; first | rfl | skip
  case sp11 => exact fun a' L W _ h => h.other (by simp) (Below.refl _ _)
  try simp only [Act.put, List.setIfInBounds_toArray, List.set_cons_zero, List.set_cons_succ]
  refine' DA.Det.takeE (i := 12) (v := _) rfl (fun _ => Iff.rfl) (by kernel_rfl) (by kernel_rfl) (by kernel_rfl) (DA.YS.pure rfl rfl ?rp12 ?sp12) ?np12
  case rp12 => intro a' L W hS; go_simp; first | rfl | skip
  case sp12 => exact fun a' L W _ h => h.other (by simp) (Below.refl _ _)
  try simp only [Act.put, List.setIfInBounds_toArray, List.set_cons_zero, List.set_cons_succ]
  refine' DA.Det.takeE (i := 13) (v := _) rfl (fun _ => Iff.rfl) (by kernel_rfl) (by kernel_rfl) (by kernel_rfl) (DA.YS.pure rfl rfl ?rp13 ?sp13) ?np13
  case rp13 => intro a' L W hS; obtain ⟨k0, k1, k2, k3, -⟩ := row_facts4 (row_keep hr6 hS.1); go_simp; first | rfl | skip
  case sp13 => exact fun a' L W _ h => h.other (by simp) (Below.refl _ _)
  try simp only [Act.put, List.setIfInBounds_toArray, List.set_cons_zero, List.set_cons_succ]
  refine' DA.Det.takeE (i := 14) (v := _) rfl (fun _ => Iff.rfl) (by kernel_rfl) (by kernel_rfl) (by kernel_rfl) (DA.YS.pure rfl rfl ?rp14 ?sp14) ?np14
  case rp14 => intro a' L W hS; obtain ⟨k0, k1, k2, k3, -⟩ := row_facts4 (row_keep hr2 hS.1); go_simp; first | rfl | skip
  case sp14 => exact fun a' L W _ h => h.other (by simp) (Below.refl _ _)
  try simp only [Act.put, List.setIfInBounds_toArray, List.set_cons_zero, List.set_cons_succ]
  refine' DA.Det.takeE (i := 15) (v := _) rfl (fun _ => Iff.rfl) (by kernel_rfl) (by kernel_rfl) (by kernel_rfl) (DA.YS.call (f := _) (args := _) rfl ?rp15 ?cp15) ?np15
  case rp15 => intro W; go_simp; constructor <;> rfl
  case cp15 =>
    intro a' L W hL hS
    refine (hC4.out W hS.1).mono ?_
    rintro e w9 ⟨rfl, hb9⟩
    exact ⟨_, rfl, rfl, hS.other (by simp) hb9⟩
  try simp only [Act.put, List.setIfInBounds_toArray, List.set_cons_zero, List.set_cons_succ]
  refine' DA.Det.takeE (i := 16) (v := _) rfl (fun _ => Iff.rfl) (by kernel_rfl) (by kernel_rfl) (by kernel_rfl) (DA.YS.pure rfl rfl ?rp16 ?sp16) ?np16
  case rp16 => intro a' L W hS; go_simp; first | rfl | skip
  case sp16 => exact fun a' L W _ h => h.other (by simp) (Below.refl _ _)
  try simp only [Act.put, List.setIfInBounds_toArray, List.set_cons_zero, List.set_cons_succ]
  refine' DA.Det.takeE (i := 17) (v := _) rfl (fun _ => Iff.rfl) (by kernel_rfl) (by kernel_rfl) (by kernel_rfl) (DA.YS.pure rfl rfl ?rp17 ?sp17) ?np17
  case rp17 => intro a' L W hS; go_simp; first | rfl | skip
  case sp17 => exact fun a' L W _ h => h.other (by simp) (Below.refl _ _)
  try simp only [Act.put, List.setIfInBounds_toArray, List.set_cons_zero, List.set_cons_succ]
  refine DA.Det.done (by kernel_rfl) (fun W hS => ?_) _
  have hbW := bnext hb hS.1 hb.size
  clear hS
  go_wp2
  go_ret
  exact ⟨rfl, hbW⟩

theorem own : ownKnob Tryd.prog.godebug = none := by kernel_rfl
theorem contract (H : Type) (enc : TypeId × Value → H) (W : World) (base : Nat) (args : Array Value) (ds gs : List (DataW H)) (before : List MemPlace)
    (hval : ∀ (j : Nat) t v, Tryd.f3.params[j]? = some t → args[j]? = some v → Value.okWide Tryd.prog W .any base t v)
    (hW : DataW.Whole enc Tryd.prog Tryd.f3.params.toList Rows.freshStorablesSpec.vars false W args.toList ds gs before) (hk : Rows.uptoSmall H (ds ++ gs) = true) (hmax : MaxL W) :
    Calls Tryd.prog 3 args W fun e W' => ∃ v, e = .returned v ∧ Rows.freshStorablesSpec.post enc Tryd.prog Tryd.f3 false true false false W args v W' := by
  have hW' := hW
  obtain ⟨p, q, hA0, hV, rfl, hfz, hnd⟩ := hW
  have hA : DataW.TrodAll enc Tryd.prog W 0 (fun _ => true) true Tryd.f3.params.toList args.toList ds p := hA0
  rw [Tryd.params3] at hA hval
  obtain ⟨v0, vs0, d0, ds0, p0, q0, hargs, rfl, rfl, h0, r0⟩ := trodAll_cons hA
  obtain ⟨v1, vs1, d1, ds1, p1, q1, rfl, rfl, rfl, h1, r1⟩ := trodAll_cons r0
  obtain ⟨rfl, rfl, rfl⟩ := trodAll_nil r1
  obtain rfl : args = #[v0, v1] := by cases args; simp_all
  obtain ⟨rfl, rfl⟩ := trodVars_none hV
  have hall := bulks.bound hk
  simp only [List.append_nil, Rows.uptoBulkAll] at hall
  have hb0 : Rows.uptoBulk d0 ≤ 1048576 := by omega
  have hb1 : Rows.uptoBulk d1 ≤ 1048576 := by omega
  clear hall
  obtain ⟨m0, t0, x0, A0, n0, c0, l0, rfl, hr0, hn0, hf0, hc0, hd0⟩ := opReq (hval 0 24 v0 rfl rfl) h0 hb0
  obtain ⟨st1, rs1, x1, A1, n1, c1, l1, rfl, hr1, hn1, hf1, hc1, hd1, hs1, ht1⟩ := opResp (hval 1 26 v1 rfl rfl) h1 hb1
  clear hA0
  refine (walk W hmax m0 t0 x0 A0 n0 c0 l0 hr0 hn0 hf0 hc0 hd0 st1 hs1 ht1 rs1 x1 A1 n1 c1 l1 hr1 hn1 hf1 hc1 hd1).mono fun e W' ⟨he, hg⟩ => ?_
  subst he
  exact ⟨_, rfl, post_of_below (pa := p0 ++ (p1 ++ ([]))) (pv := []) hW' (fun _ _ _ => (trodAll_cons_mk (shut_bool Tryd.underlying4 _) trodAll_mk0)) (fun sp hsp => (trodAll_cons_mk (arg_stays laidOut (by kernel_rfl) (of_decide_eq_true (by kernel_rfl)) h0 hg (fun x hx => hW'.lt x (by simp [hx])) sp (fun x hx => hsp x (by simp [hx]))) (trodAll_cons_mk (arg_stays laidOut (by kernel_rfl) (of_decide_eq_true (by kernel_rfl)) h1 hg (fun x hx => hW'.lt x (by simp [hx])) sp (fun x hx => hsp x (by simp [hx]))) trodAll_mk0))) (fun _ _ => rfl) rfl
    hg (ok_one (by kernel_rfl) rfl (okWide_bool_mk Tryd.underlying4 _))⟩

/-- A world for the witness: the settled one, the listed variables holding what the program lays. -/
noncomputable def laidWorld (os : Os) : World :=
  { (World.holding Tryd.prog os ⟨#[], #[], []⟩) with heap := (((World.holding Tryd.prog os ⟨#[], #[], []⟩).heap.modify 2 fun
      | .cells _ t frozen => .cells #[.int .u8 128, .int .u8 191, .int .u8 160, .int .u8 191, .int .u8 128, .int .u8 159, .int .u8 144, .int .u8 191, .int .u8 128, .int .u8 143, .int .u8 0, .int .u8 0, .int .u8 0, .int .u8 0, .int .u8 0, .int .u8 0, .int .u8 0, .int .u8 0, .int .u8 0, .int .u8 0, .int .u8 0, .int .u8 0, .int .u8 0, .int .u8 0, .int .u8 0, .int .u8 0, .int .u8 0, .int .u8 0, .int .u8 0, .int .u8 0, .int .u8 0, .int .u8 0] t frozen
      | o => o).modify 1 fun
      | .cells _ t frozen => .cells (Go.Pinned.utf8FirstZ.map fun (n : Nat) => Value.int .u8 (n : Int)).toArray t frozen
      | o => o) }
theorem laid_met (os : Os) : laidMet Tryd.prog Rows.freshStorablesUptoRow.laid ((laidWorld os).forCall (fun _ _ => 0) ⟨#[], #[.agg #[.string ⟨#[]⟩, .string ⟨#[]⟩, .int .i64 0, .slice none 0 0], .agg #[.int .i64 0, .string ⟨#[]⟩, .int .i64 0, .slice none 0 0]], []⟩).memory :=
  laidMet_of_run' 8 (by kernel_rfl) (by kernel_rfl)

theorem reads (os : Os) {H : Type} (enc : TypeId × Value → H) : ∃ places, DataW.whole enc Tryd.prog ((laidWorld os).forCall (fun _ _ => 0) ⟨#[], #[.agg #[.string ⟨#[]⟩, .string ⟨#[]⟩, .int .i64 0, .slice none 0 0], .agg #[.int .i64 0, .string ⟨#[]⟩, .int .i64 0, .slice none 0 0]], []⟩).memory Tryd.f3.params.toList Rows.freshStorablesSpec.vars false #[.agg #[.string ⟨#[]⟩, .string ⟨#[]⟩, .int .i64 0, .slice none 0 0], .agg #[.int .i64 0, .string ⟨#[]⟩, .int .i64 0, .slice none 0 0]].toList 8 = some ([.agg [.lit (.string []), .lit (.string []), .lit (.int .i64 0), .nil], .agg [.lit (.int .i64 0), .lit (.string []), .lit (.int .i64 0), .nil]], [], places) :=
  ⟨[], by kernel_rfl⟩

set_option maxRecDepth 100000 in
theorem liftedUpto (os : Os) (started : os.Started) (H : Type) (enc : TypeId × Value → H) (F : Stop.Interp) :
    ReturnsInHanded {} Tryd.checked os 3 .any ((Rows.OpenSpec.upto Rows.freshStorablesSpec).preRow enc Tryd.prog Tryd.f3 Rows.freshStorablesUptoRow.domain false Rows.freshStorablesUptoRow.laid) (((Rows.OpenSpec.upto Rows.freshStorablesSpec).at F).post enc Tryd.prog Tryd.f3 false true false false) := by
  obtain ⟨places, hx⟩ := reads os enc
  refine returnsInHanded_of_row (C := Tryd.checked) (s := Rows.OpenSpec.upto Rows.freshStorablesSpec) own started (by kernel_rfl) Tryd.func3
    (witness_row_at (enc := enc) (C := Tryd.checked) false (laidWorld os) #[.agg #[.string ⟨#[]⟩, .string ⟨#[]⟩, .int .i64 0, .slice none 0 0], .agg #[.int .i64 0, .string ⟨#[]⟩, .int .i64 0, .slice none 0 0]] rfl (by kernel_rfl) (by kernel_rfl) (by kernel_rfl)
      (OpenSpec.preRow_of_cond 8 hx (by kernel_rfl) (fun k hk => by cases hk; kernel_rfl) (by kernel_rfl) (laid_met os))) ?_
  intro W base args ds gs before hval hW g1 hcond g2 g3 g4 g5
  exact contract H enc W base args ds gs before hval hW (hcond _ rfl) (by first | exact maxl_of g4 | exact maxl_of g3 | exact maxl_of g2 | exact maxl_of g5 | exact maxl_of g1)

theorem saidUpto : Rows.FreshStorablesUptoSaid :=
  OpenClaim.holds_of_cond 3 Tryd.f3 rfl rfl rfl rfl rfl rfl rfl ⟨rfl, rfl, rfl, rfl, rfl⟩ rfl rfl rfl rfl rfl (by kernel_rfl) Tryd.func3 (by kernel_rfl)
    (of_decide_eq_true (by kernel_rfl)) (by unfold Func.isWrapper; first | (rw [if_pos (by decide +kernel)]; kernel_rfl) | (rw [if_neg (by decide +kernel)]; exact ⟨rfl, rfl⟩))
    (fun os started H enc _ F => by rw [OpenClaim.pre_eq_preRow]; exact liftedUpto os started H enc F)

theorem plain (f : FuncId) (fn : Func) (hf : Tryd.pinned.checked.prog.funcNamed "conduit/conduitlaw16.FreshStorables" = some f) (hfn : Tryd.pinned.checked.prog.funcs[f]? = some fn) :
    false = Tryd.pinned.checked.prog.looks [] ∧ ∀ (j : Nat) t, fn.params[j]? = some t → Tryd.pinned.checked.prog.wantsStandIn t = false := by
  obtain rfl : f = 3 := Option.some.inj ((show Tryd.prog.funcNamed "conduit/conduitlaw16.FreshStorables" = some 3 by kernel_rfl).symm.trans hf) |>.symm
  obtain rfl : fn = Tryd.f3 := (Option.some.inj (Tryd.func3.symm.trans hfn)).symm
  refine ⟨by kernel_rfl, fun j t ht => ?_⟩
  rw [Tryd.params3] at ht
  have hm := Array.mem_of_getElem? ht
  simp only [List.mem_toArray, List.mem_cons, List.not_mem_nil, or_false] at hm
  rcases hm with rfl | rfl
  · exact (show Tryd.prog.wantsStandIn 24 = false by kernel_rfl)
  · exact (show Tryd.prog.wantsStandIn 26 = false by kernel_rfl)

theorem proved : Rows.FreshStorablesUptoCardSaid :=
  Claim7.holds_tied_plain_at .later [] _ _ _ _ saidUpto (fun _ h => by cases h) (by kernel_rfl) (fun _ h => by cases h) freshStorablesUpto_row_tie rfl ⟨rfl, rfl⟩ (by kernel_rfl) rfl plain (by kernel_rfl)
end Go.Proofs.YtfhkgbimnfjfhaaDoor.freshStorables

