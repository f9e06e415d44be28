/- FreshJudges: for every input within the second form's bound the law answers true and leaves its arguments as they were. Condition: the bulk of the arguments at most 1048576. -/
import Derived.Test.YtfhkgbimnfjfhaaGreatDoorCards
import Derived.Test.YtfhkgbimnfjfhaaGreatDoorTie
import Derived.Test.YtfhkgbimnfjfhaaGreatDoorM28
import Derived.Test.YtfhkgbimnfjfhaaGreatDoorM36
import Derived.Test.YtfhkgbimnfjfhaaGreatDoorM38
import Derived.WalkKit
import Derived.ProofKit
import Derived.OpenShut
import Derived.JoinedCond
import Derived.Deep.DeepHandedRow
import Derived.Deep.DeepWitnessRowRef
import Derived.Lib.LaidTab
set_option linter.unusedVariables false
set_option linter.unusedSimpArgs false
set_option maxRecDepth 100000
namespace Go.Proofs.YtfhkgbimnfjfhaaGreatDoor.freshJudges
open Go.ChangeShapes Go.WideShapes Go.ChangeAt Go.RowKit

set_option maxRecDepth 100000
set_option maxHeartbeats 8000000 in
theorem walk (w : World) (hM : MaxL w) (q : Ctl.Ct) (hq : Frs.ctOK q) (e : Frs.Ent) (A : Option Addr) (n c : Nat) (B : Option Addr) (m k : Nat) (he : e.ok 1048576) (hl : RdF w A n e.l) (hB : RdB w B m e.b) (hn : n + 3 ≤ 1048576) (hm : m ≤ 1048576) (p : Frs.Pol) (hp : p.ok) (now : Int) (hi : -9223372036854775808 ≤ now) (hj : now ≤ 9223372036854775807) :
    Calls Tryz.prog 4 #[ctV q, entV e A n c B m k, polV p, .int .i64 now] w fun x w' => x = .returned (.bool true) ∧ Below w.heap.size w w' := by
  replace hn : n ≤ 1048576 := by omega
  have hls : FlenS e.l := he.2.2.2.1
  unfold entV polV ctV
  have hal0 := alloc_below w (.cells #[.bool q.noStore, .bool q.noCache, .bool q.priv, .bool q.pub, .bool q.must, .bool q.only, .int .i64 q.maxAge, .int .i64 q.sMaxAge, .int .i64 q.minFresh, .int .i64 q.maxStale] 37)
  have hrq := heap_alloc_new w (.cells #[.bool q.noStore, .bool q.noCache, .bool q.priv, .bool q.pub, .bool q.must, .bool q.only, .int .i64 q.maxAge, .int .i64 q.sMaxAge, .int .i64 q.minFresh, .int .i64 q.maxStale] 37)
  have hb0 := hal0
  have hal1 := alloc_below (w.alloc (.cells #[.bool q.noStore, .bool q.noCache, .bool q.priv, .bool q.pub, .bool q.must, .bool q.only, .int .i64 q.maxAge, .int .i64 q.sMaxAge, .int .i64 q.minFresh, .int .i64 q.maxStale] 37)) (.cells #[.string (bs e.key), .string (bs e.vary), .int .i64 e.st, .string (bs e.rs), .int .i64 e.mi, .slice A n c, .slice B m k, .int .i64 e.asked, .int .i64 e.got] 27)
  have hr1 := heap_alloc_new (w.alloc (.cells #[.bool q.noStore, .bool q.noCache, .bool q.priv, .bool q.pub, .bool q.must, .bool q.only, .int .i64 q.maxAge, .int .i64 q.sMaxAge, .int .i64 q.minFresh, .int .i64 q.maxStale] 37)) (.cells #[.string (bs e.key), .string (bs e.vary), .int .i64 e.st, .string (bs e.rs), .int .i64 e.mi, .slice A n c, .slice B m k, .int .i64 e.asked, .int .i64 e.got] 27)
  rw [show (w.alloc (.cells #[.bool q.noStore, .bool q.noCache, .bool q.priv, .bool q.pub, .bool q.must, .bool q.only, .int .i64 q.maxAge, .int .i64 q.sMaxAge, .int .i64 q.minFresh, .int .i64 q.maxStale] 37)).heap.size = w.heap.size + 1 by simp] at hr1
  replace hrq := row_keep hrq hal1
  replace hb0 := bnext hb0 hal1 hb0.size
  have hal2 := alloc_below ((w.alloc (.cells #[.bool q.noStore, .bool q.noCache, .bool q.priv, .bool q.pub, .bool q.must, .bool q.only, .int .i64 q.maxAge, .int .i64 q.sMaxAge, .int .i64 q.minFresh, .int .i64 q.maxStale] 37)).alloc (.cells #[.string (bs e.key), .string (bs e.vary), .int .i64 e.st, .string (bs e.rs), .int .i64 e.mi, .slice A n c, .slice B m k, .int .i64 e.asked, .int .i64 e.got] 27)) (.cells #[.int .i64 p.mn, .int .i64 p.pc, .int .i64 p.mx, .int .i64 p.ng] 29)
  have hr2 := heap_alloc_new ((w.alloc (.cells #[.bool q.noStore, .bool q.noCache, .bool q.priv, .bool q.pub, .bool q.must, .bool q.only, .int .i64 q.maxAge, .int .i64 q.sMaxAge, .int .i64 q.minFresh, .int .i64 q.maxStale] 37)).alloc (.cells #[.string (bs e.key), .string (bs e.vary), .int .i64 e.st, .string (bs e.rs), .int .i64 e.mi, .slice A n c, .slice B m k, .int .i64 e.asked, .int .i64 e.got] 27)) (.cells #[.int .i64 p.mn, .int .i64 p.pc, .int .i64 p.mx, .int .i64 p.ng] 29)
  rw [show ((w.alloc (.cells #[.bool q.noStore, .bool q.noCache, .bool q.priv, .bool q.pub, .bool q.must, .bool q.only, .int .i64 q.maxAge, .int .i64 q.sMaxAge, .int .i64 q.minFresh, .int .i64 q.maxStale] 37)).alloc (.cells #[.string (bs e.key), .string (bs e.vary), .int .i64 e.st, .string (bs e.rs), .int .i64 e.mi, .slice A n c, .slice B m k, .int .i64 e.asked, .int .i64 e.got] 27)).heap.size = w.heap.size + 1 + 1 by simp] at hr2
  replace hrq := row_keep hrq hal2
  replace hr1 := row_keep hr1 hal2
  replace hb0 := bnext hb0 hal2 hb0.size
  clear hal0 hal1 hal2
  go_enter Tryz.func4, Tryz.ntmps4
  go_upto_region 1 with fail
  generalize (((w.alloc (.cells #[.bool q.noStore, .bool q.noCache, .bool q.priv, .bool q.pub, .bool q.must, .bool q.only, .int .i64 q.maxAge, .int .i64 q.sMaxAge, .int .i64 q.minFresh, .int .i64 q.maxStale] 37)).alloc (.cells #[.string (bs e.key), .string (bs e.vary), .int .i64 e.st, .string (bs e.rs), .int .i64 e.mi, .slice A n c, .slice B m k, .int .i64 e.asked, .int .i64 e.got] 27)).alloc (.cells #[.int .i64 p.mn, .int .i64 p.pc, .int .i64 p.mx, .int .i64 p.ng] 29)) = w2 at *
  replace hl := hl.step hb0
  replace hB := hB.step hb0
  replace hM := maxl_b hM hb0
  go_wp2_with fail
  refine (alive16_any w2 hM).mono ?_
  rintro x w3 ⟨rfl, hb3⟩
  replace hrq := row_keep hrq hb3
  replace hr1 := row_keep hr1 hb3
  replace hr2 := row_keep hr2 hb3
  replace hl := hl.step hb3
  replace hB := hB.step hb3
  replace hM := maxl_b hM hb3
  replace hb0 := bnext hb0 hb3 hb0.size
  clear hb3
  go_upto_region 3 with fail
  obtain ⟨a0, a1, a2, a3, a4, a5, a6, a7, a8, -⟩ := row_facts9 hr1
  have hC := copyEntry_any e A n c B m k w3 hl hn hB (by omega)
  unfold entV at hC
  go_wp2_with fail
  refine hC.mono ?_
  rintro x w4 ⟨A1, n1, c1, B1, m1, k1, rfl, hl1, hB1, hb4⟩
  clear hC
  clear a0 a1 a2 a3 a4 a5 a6 a7 a8
  replace hr1 := row_keep hr1 hb4
  replace hr2 := row_keep hr2 hb4
  replace hrq := row_keep hrq hb4
  replace hl := hl.step hb4
  replace hB := hB.step hb4
  replace hM := maxl_b hM hb4
  replace hb0 := bnext hb0 hb4 hb0.size
  clear hb4
  go_upto_region 4 with fail
  have hal := alloc_below w4 (.cells #[.string (bs e.key), .string (bs e.vary), .int .i64 e.st, .string (bs e.rs), .int .i64 e.mi, .slice A1 n1 c1, .slice B1 m1 k1, .int .i64 e.asked, .int .i64 e.got] 27)
  have hr5 := heap_alloc_new w4 (.cells #[.string (bs e.key), .string (bs e.vary), .int .i64 e.st, .string (bs e.rs), .int .i64 e.mi, .slice A1 n1 c1, .slice B1 m1 k1, .int .i64 e.asked, .int .i64 e.got] 27)
  replace hl1 := hl1.step hal
  replace hB1 := hB1.step hal
  replace hr1 := row_keep hr1 hal
  replace hr2 := row_keep hr2 hal
  replace hrq := row_keep hrq hal
  replace hl := hl.step hal
  replace hB := hB.step hal
  replace hM := maxl_b hM hal
  replace hb0 := bnext hb0 hal hb0.size
  clear hal
  generalize w4.alloc (.cells #[.string (bs e.key), .string (bs e.vary), .int .i64 e.st, .string (bs e.rs), .int .i64 e.mi, .slice A1 n1 c1, .slice B1 m1 k1, .int .i64 e.asked, .int .i64 e.got] 27) = w5 at *
  generalize w4.heap.size = g5 at *
  have hn1 : n1 ≤ 1048576 := by have := hl1.1; have := hl.1; omega
  have hm1 : m1 ≤ 1048576 := by have := hB1.1; have := hB.1; omega
  have H1 : Hid (∀ W, Below w5.heap.size w5 W → Calls Tryz.prog 16 #[.agg #[.bool q.noStore, .bool q.noCache, .bool q.priv, .bool q.pub, .bool q.must, .bool q.only, .int .i64 q.maxAge, .int .i64 q.sMaxAge, .int .i64 q.minFresh, .int .i64 q.maxStale], .agg #[.string (bs e.key), .string (bs e.vary), .int .i64 e.st, .string (bs e.rs), .int .i64 e.mi, .slice A1 n1 c1, .slice B1 m1 k1, .int .i64 e.asked, .int .i64 e.got], .agg #[.int .i64 p.mn, .int .i64 p.pc, .int .i64 p.mx, .int .i64 p.ng], .int .i64 now] W fun x w' => x = .returned (.int .i64 (Frs.judgeL q e.l e.st e.asked e.got p now)) ∧ Below W.heap.size W w') := Lib.hid fun W hb => judge_any q e A1 n1 c1 B1 m1 k1 p now W (maxl_b hM hb) (hl1.step hb) hn1 hls
  have H2 : Hid (∀ W, Below w5.heap.size w5 W → Calls Tryz.prog 17 #[.agg #[.bool q.noStore, .bool q.noCache, .bool q.priv, .bool q.pub, .bool q.must, .bool q.only, .int .i64 q.maxAge, .int .i64 q.sMaxAge, .int .i64 q.minFresh, .int .i64 q.maxStale], .agg #[.string (bs e.key), .string (bs e.vary), .int .i64 e.st, .string (bs e.rs), .int .i64 e.mi, .slice A n c, .slice B m k, .int .i64 e.asked, .int .i64 e.got], .agg #[.int .i64 p.mn, .int .i64 p.pc, .int .i64 p.mx, .int .i64 p.ng], .int .i64 now] W fun x w' => x = .returned (.int .i64 (Frs.judgeL q e.l e.st e.asked e.got p now)) ∧ Below W.heap.size W w') := Lib.hid fun W hb => judgeR_any q e A n c B m k p now W (hl.step hb) hn hls
  have H5 : Hid (∀ W, Below w5.heap.size w5 W → Calls Tryz.prog 15 #[.agg #[.string (bs e.key), .string (bs e.vary), .int .i64 e.st, .string (bs e.rs), .int .i64 e.mi, .slice A1 n1 c1, .slice B1 m1 k1, .int .i64 e.asked, .int .i64 e.got], .agg #[.string (bs e.key), .string (bs e.vary), .int .i64 e.st, .string (bs e.rs), .int .i64 e.mi, .slice A n c, .slice B m k, .int .i64 e.asked, .int .i64 e.got]] W fun x w' => x = .returned (.bool true) ∧ Below W.heap.size W w') := Lib.hid fun W hb => sameEntry_any e A1 n1 c1 B1 m1 k1 A n c B m k W (hl1.step hb) hn1 (hB1.step hb) hm1 (hl.step hb) hn (hB.step hb) (by omega)
  clear hl hB hM hl1 hB1 hls he hp
  generalize Frs.judgeL q e.l e.st e.asked e.got p now = f at *
  refine wp_region_detN (n := 17) (S := fun L W => Below w5.heap.size w5 W) (by kernel_rfl) rfl (below_drewN (Below.refl _ _) 1) ?_
  refine' DetS.takeL (i := 0) (v := _) rfl (by kernel_rfl) (by kernel_rfl) (by kernel_rfl) (YS.pure rfl ?sd4_0 ?rd4_0) ?nd4_0
  case rd4_0 => intro L W hS; obtain ⟨k0, k1, k2, k3, k4, k5, k6, k7, k8, -⟩ := row_facts9 (row_keep hr1 hS); obtain ⟨j0, j1, j2, j3, j4, j5, j6, j7, j8, -⟩ := row_facts9 (row_keep hr5 hS); obtain ⟨m0, m1, m2, m3, -⟩ := row_facts4 (row_keep hr2 hS); obtain ⟨i0, i1, i2, i3, i4, i5, i6, i7, i8, i9, -⟩ := row_facts10 (row_keep hrq hS); go_simp; first | rfl | (rw [if_neg (by omega)] <;> rfl) | (rw [if_neg (by simp; omega)] <;> rfl) | (rw [if_neg (by simp)] <;> rfl)
  case sd4_0 => exact fun L W _ h => h
  simp only [Act.put, List.setIfInBounds_toArray, List.set_cons_zero, List.set_cons_succ]
  refine' DetS.takeL (i := 1) (v := _) rfl (by kernel_rfl) (by kernel_rfl) (by kernel_rfl) (YS.pure rfl ?sd4_1 ?rd4_1) ?nd4_1
  case rd4_1 => intro L W hS; obtain ⟨k0, k1, k2, k3, k4, k5, k6, k7, k8, -⟩ := row_facts9 (row_keep hr1 hS); obtain ⟨j0, j1, j2, j3, j4, j5, j6, j7, j8, -⟩ := row_facts9 (row_keep hr5 hS); obtain ⟨m0, m1, m2, m3, -⟩ := row_facts4 (row_keep hr2 hS); obtain ⟨i0, i1, i2, i3, i4, i5, i6, i7, i8, i9, -⟩ := row_facts10 (row_keep hrq hS); go_simp; first | rfl | (rw [if_neg (by omega)] <;> rfl) | (rw [if_neg (by simp; omega)] <;> rfl) | (rw [if_neg (by simp)] <;> rfl)
  case sd4_1 => exact fun L W _ h => h
  simp only [Act.put, List.setIfInBounds_toArray, List.set_cons_zero, List.set_cons_succ]
  refine' DetS.takeL (i := 2) (v := _) rfl (by kernel_rfl) (by kernel_rfl) (by kernel_rfl) (YS.pure rfl ?sd4_2 ?rd4_2) ?nd4_2
  case rd4_2 => intro L W hS; obtain ⟨k0, k1, k2, k3, k4, k5, k6, k7, k8, -⟩ := row_facts9 (row_keep hr1 hS); obtain ⟨j0, j1, j2, j3, j4, j5, j6, j7, j8, -⟩ := row_facts9 (row_keep hr5 hS); obtain ⟨m0, m1, m2, m3, -⟩ := row_facts4 (row_keep hr2 hS); obtain ⟨i0, i1, i2, i3, i4, i5, i6, i7, i8, i9, -⟩ := row_facts10 (row_keep hrq hS); go_simp; first | rfl | (rw [if_neg (by omega)] <;> rfl) | (rw [if_neg (by simp; omega)] <;> rfl) | (rw [if_neg (by simp)] <;> rfl)
  case sd4_2 => exact fun L W _ h => h
  simp only [Act.put, List.setIfInBounds_toArray, List.set_cons_zero, List.set_cons_succ]
  refine' DetS.takeL (i := 3) (v := _) rfl (by kernel_rfl) (by kernel_rfl) (by kernel_rfl) (YS.pure rfl ?sd4_3 ?rd4_3) ?nd4_3
  case rd4_3 => intro L W hS; obtain ⟨k0, k1, k2, k3, k4, k5, k6, k7, k8, -⟩ := row_facts9 (row_keep hr1 hS); obtain ⟨j0, j1, j2, j3, j4, j5, j6, j7, j8, -⟩ := row_facts9 (row_keep hr5 hS); obtain ⟨m0, m1, m2, m3, -⟩ := row_facts4 (row_keep hr2 hS); obtain ⟨i0, i1, i2, i3, i4, i5, i6, i7, i8, i9, -⟩ := row_facts10 (row_keep hrq hS); go_simp; first | rfl | (rw [if_neg (by omega)] <;> rfl) | (rw [if_neg (by simp; omega)] <;> rfl) | (rw [if_neg (by simp)] <;> rfl)
  case sd4_3 => exact fun L W _ h => h
  simp only [Act.put, List.setIfInBounds_toArray, List.set_cons_zero, List.set_cons_succ]
  refine' DetS.takeL (i := 4) (v := _) rfl (by kernel_rfl) (by kernel_rfl) (by kernel_rfl) (YS.call (f := _) (args := _) rfl ?rd4_4 ?cd4_4) ?nd4_4
  case rd4_4 => intro W; go_simp; constructor <;> rfl
  case cd4_4 =>
    intro L W hL hS
    refine (H1.out W hS).mono ?_
    rintro e9 w9 ⟨rfl, hb9⟩
    exact ⟨by rfl, bnext hS hb9 hS.size⟩
  simp only [Act.put, List.setIfInBounds_toArray, List.set_cons_zero, List.set_cons_succ]
  refine' DetS.takeL (i := 5) (v := _) rfl (by kernel_rfl) (by kernel_rfl) (by kernel_rfl) (YS.pure rfl ?sd4_5 ?rd4_5) ?nd4_5
  case rd4_5 => intro L W hS; obtain ⟨k0, k1, k2, k3, k4, k5, k6, k7, k8, -⟩ := row_facts9 (row_keep hr1 hS); obtain ⟨j0, j1, j2, j3, j4, j5, j6, j7, j8, -⟩ := row_facts9 (row_keep hr5 hS); obtain ⟨m0, m1, m2, m3, -⟩ := row_facts4 (row_keep hr2 hS); obtain ⟨i0, i1, i2, i3, i4, i5, i6, i7, i8, i9, -⟩ := row_facts10 (row_keep hrq hS); go_simp; first | rfl | (rw [if_neg (by omega)] <;> rfl) | (rw [if_neg (by simp; omega)] <;> rfl) | (rw [if_neg (by simp)] <;> rfl)
  case sd4_5 => exact fun L W _ h => h
  simp only [Act.put, List.setIfInBounds_toArray, List.set_cons_zero, List.set_cons_succ]
  refine' DetS.takeL (i := 6) (v := _) rfl (by kernel_rfl) (by kernel_rfl) (by kernel_rfl) (YS.pure rfl ?sd4_6 ?rd4_6) ?nd4_6
  case rd4_6 => intro L W hS; obtain ⟨k0, k1, k2, k3, k4, k5, k6, k7, k8, -⟩ := row_facts9 (row_keep hr1 hS); obtain ⟨j0, j1, j2, j3, j4, j5, j6, j7, j8, -⟩ := row_facts9 (row_keep hr5 hS); obtain ⟨m0, m1, m2, m3, -⟩ := row_facts4 (row_keep hr2 hS); obtain ⟨i0, i1, i2, i3, i4, i5, i6, i7, i8, i9, -⟩ := row_facts10 (row_keep hrq hS); go_simp; first | rfl | (rw [if_neg (by omega)] <;> rfl) | (rw [if_neg (by simp; omega)] <;> rfl) | (rw [if_neg (by simp)] <;> rfl)
  case sd4_6 => exact fun L W _ h => h
  simp only [Act.put, List.setIfInBounds_toArray, List.set_cons_zero, List.set_cons_succ]
  refine' DetS.takeL (i := 7) (v := _) rfl (by kernel_rfl) (by kernel_rfl) (by kernel_rfl) (YS.pure rfl ?sd4_7 ?rd4_7) ?nd4_7
  case rd4_7 => intro L W hS; obtain ⟨k0, k1, k2, k3, k4, k5, k6, k7, k8, -⟩ := row_facts9 (row_keep hr1 hS); obtain ⟨j0, j1, j2, j3, j4, j5, j6, j7, j8, -⟩ := row_facts9 (row_keep hr5 hS); obtain ⟨m0, m1, m2, m3, -⟩ := row_facts4 (row_keep hr2 hS); obtain ⟨i0, i1, i2, i3, i4, i5, i6, i7, i8, i9, -⟩ := row_facts10 (row_keep hrq hS); go_simp; first | rfl | (rw [if_neg (by omega)] <;> rfl) | (rw [if_neg (by simp; omega)] <;> rfl) | (rw [if_neg (by simp)] <;> rfl)
  case sd4_7 => exact fun L W _ h => h
  simp only [Act.put, List.setIfInBounds_toArray, List.set_cons_zero, List.set_cons_succ]
  refine' DetS.takeL (i := 8) (v := _) rfl (by kernel_rfl) (by kernel_rfl) (by kernel_rfl) (YS.pure rfl ?sd4_8 ?rd4_8) ?nd4_8
  case rd4_8 => intro L W hS; obtain ⟨k0, k1, k2, k3, k4, k5, k6, k7, k8, -⟩ := row_facts9 (row_keep hr1 hS); obtain ⟨j0, j1, j2, j3, j4, j5, j6, j7, j8, -⟩ := row_facts9 (row_keep hr5 hS); obtain ⟨m0, m1, m2, m3, -⟩ := row_facts4 (row_keep hr2 hS); obtain ⟨i0, i1, i2, i3, i4, i5, i6, i7, i8, i9, -⟩ := row_facts10 (row_keep hrq hS); go_simp; first | rfl | (rw [if_neg (by omega)] <;> rfl) | (rw [if_neg (by simp; omega)] <;> rfl) | (rw [if_neg (by simp)] <;> rfl)
  case sd4_8 => exact fun L W _ h => h
  simp only [Act.put, List.setIfInBounds_toArray, List.set_cons_zero, List.set_cons_succ]
  refine' DetS.takeL (i := 9) (v := _) rfl (by kernel_rfl) (by kernel_rfl) (by kernel_rfl) (YS.call (f := _) (args := _) rfl ?rd4_9 ?cd4_9) ?nd4_9
  case rd4_9 => intro W; go_simp; constructor <;> rfl
  case cd4_9 =>
    intro L W hL hS
    refine (H2.out W hS).mono ?_
    rintro e9 w9 ⟨rfl, hb9⟩
    exact ⟨by rfl, bnext hS hb9 hS.size⟩
  simp only [Act.put, List.setIfInBounds_toArray, List.set_cons_zero, List.set_cons_succ]
  refine' DetS.takeL (i := 10) (v := _) rfl (by kernel_rfl) (by kernel_rfl) (by kernel_rfl) (YS.pure rfl ?sd4_10 ?rd4_10) ?nd4_10
  case rd4_10 => intro L W hS; obtain ⟨k0, k1, k2, k3, k4, k5, k6, k7, k8, -⟩ := row_facts9 (row_keep hr1 hS); obtain ⟨j0, j1, j2, j3, j4, j5, j6, j7, j8, -⟩ := row_facts9 (row_keep hr5 hS); obtain ⟨m0, m1, m2, m3, -⟩ := row_facts4 (row_keep hr2 hS); obtain ⟨i0, i1, i2, i3, i4, i5, i6, i7, i8, i9, -⟩ := row_facts10 (row_keep hrq hS); go_simp; first | rfl | (rw [if_neg (by omega)] <;> rfl) | (rw [if_neg (by simp; omega)] <;> rfl) | (rw [if_neg (by simp)] <;> rfl)
  case sd4_10 => exact fun L W _ h => h
  simp only [Act.put, List.setIfInBounds_toArray, List.set_cons_zero, List.set_cons_succ]
  refine' DetS.takeL (i := 11) (v := _) rfl (by kernel_rfl) (by kernel_rfl) (by kernel_rfl) (YS.pure rfl ?sd4_11 ?rd4_11) ?nd4_11
  case rd4_11 => intro L W hS; obtain ⟨k0, k1, k2, k3, k4, k5, k6, k7, k8, -⟩ := row_facts9 (row_keep hr1 hS); obtain ⟨j0, j1, j2, j3, j4, j5, j6, j7, j8, -⟩ := row_facts9 (row_keep hr5 hS); obtain ⟨m0, m1, m2, m3, -⟩ := row_facts4 (row_keep hr2 hS); obtain ⟨i0, i1, i2, i3, i4, i5, i6, i7, i8, i9, -⟩ := row_facts10 (row_keep hrq hS); go_simp; first | rfl | (rw [if_neg (by omega)] <;> rfl) | (rw [if_neg (by simp; omega)] <;> rfl) | (rw [if_neg (by simp)] <;> rfl)
  case sd4_11 => exact fun L W _ h => h
  simp only [Act.put, List.setIfInBounds_toArray, List.set_cons_zero, List.set_cons_succ]
  refine' DetS.takeL (i := 12) (v := _) rfl (by kernel_rfl) (by kernel_rfl) (by kernel_rfl) (YS.pure rfl ?sd4_12 ?rd4_12) ?nd4_12
  case rd4_12 => intro L W hS; obtain ⟨k0, k1, k2, k3, k4, k5, k6, k7, k8, -⟩ := row_facts9 (row_keep hr1 hS); obtain ⟨j0, j1, j2, j3, j4, j5, j6, j7, j8, -⟩ := row_facts9 (row_keep hr5 hS); obtain ⟨m0, m1, m2, m3, -⟩ := row_facts4 (row_keep hr2 hS); obtain ⟨i0, i1, i2, i3, i4, i5, i6, i7, i8, i9, -⟩ := row_facts10 (row_keep hrq hS); go_simp; first | rfl | (rw [if_neg (by omega)] <;> rfl) | (rw [if_neg (by simp; omega)] <;> rfl) | (rw [if_neg (by simp)] <;> rfl)
  case sd4_12 => exact fun L W _ h => h
  simp only [Act.put, List.setIfInBounds_toArray, List.set_cons_zero, List.set_cons_succ]
  refine' DetS.takeL (i := 13) (v := _) rfl (by kernel_rfl) (by kernel_rfl) (by kernel_rfl) (YS.pure rfl ?sd4_13 ?rd4_13) ?nd4_13
  case rd4_13 => intro L W hS; obtain ⟨k0, k1, k2, k3, k4, k5, k6, k7, k8, -⟩ := row_facts9 (row_keep hr1 hS); obtain ⟨j0, j1, j2, j3, j4, j5, j6, j7, j8, -⟩ := row_facts9 (row_keep hr5 hS); obtain ⟨m0, m1, m2, m3, -⟩ := row_facts4 (row_keep hr2 hS); obtain ⟨i0, i1, i2, i3, i4, i5, i6, i7, i8, i9, -⟩ := row_facts10 (row_keep hrq hS); go_simp; first | rfl | (rw [if_neg (by omega)] <;> rfl) | (rw [if_neg (by simp; omega)] <;> rfl) | (rw [if_neg (by simp)] <;> rfl)
  case sd4_13 => exact fun L W _ h => h
  simp only [Act.put, List.setIfInBounds_toArray, List.set_cons_zero, List.set_cons_succ]
  refine' DetS.takeL (i := 14) (v := _) rfl (by kernel_rfl) (by kernel_rfl) (by kernel_rfl) (YS.call (f := _) (args := _) rfl ?rd4_14 ?cd4_14) ?nd4_14
  case rd4_14 => intro W; go_simp; constructor <;> rfl
  case cd4_14 =>
    intro L W hL hS
    refine (H5.out W hS).mono ?_
    rintro e9 w9 ⟨rfl, hb9⟩
    exact ⟨by rfl, bnext hS hb9 hS.size⟩
  simp only [Act.put, List.setIfInBounds_toArray, List.set_cons_zero, List.set_cons_succ]
  refine' DetS.takeL (i := 15) (v := _) rfl (by kernel_rfl) (by kernel_rfl) (by kernel_rfl) (YS.pure rfl ?sd4_15 ?rd4_15) ?nd4_15
  case rd4_15 => intro L W hS; obtain ⟨k0, k1, k2, k3, k4, k5, k6, k7, k8, -⟩ := row_facts9 (row_keep hr1 hS); obtain ⟨j0, j1, j2, j3, j4, j5, j6, j7, j8, -⟩ := row_facts9 (row_keep hr5 hS); obtain ⟨m0, m1, m2, m3, -⟩ := row_facts4 (row_keep hr2 hS); obtain ⟨i0, i1, i2, i3, i4, i5, i6, i7, i8, i9, -⟩ := row_facts10 (row_keep hrq hS); go_simp; first | rfl | (rw [if_neg (by omega)] <;> rfl) | (rw [if_neg (by simp; omega)] <;> rfl) | (rw [if_neg (by simp)] <;> rfl)
  case sd4_15 => exact fun L W _ h => h
  simp only [Act.put, List.setIfInBounds_toArray, List.set_cons_zero, List.set_cons_succ]
  refine' DetS.takeL (i := 16) (v := _) rfl (by kernel_rfl) (by kernel_rfl) (by kernel_rfl) (YS.pure rfl ?sd4_16 ?rd4_16) ?nd4_16
  case rd4_16 => intro L W hS; obtain ⟨k0, k1, k2, k3, k4, k5, k6, k7, k8, -⟩ := row_facts9 (row_keep hr1 hS); obtain ⟨j0, j1, j2, j3, j4, j5, j6, j7, j8, -⟩ := row_facts9 (row_keep hr5 hS); obtain ⟨m0, m1, m2, m3, -⟩ := row_facts4 (row_keep hr2 hS); obtain ⟨i0, i1, i2, i3, i4, i5, i6, i7, i8, i9, -⟩ := row_facts10 (row_keep hrq hS); go_simp; first | rfl | (rw [if_neg (by omega)] <;> rfl) | (rw [if_neg (by simp; omega)] <;> rfl) | (rw [if_neg (by simp)] <;> rfl)
  case sd4_16 => exact fun L W _ h => h
  simp only [Act.put, List.setIfInBounds_toArray, List.set_cons_zero, List.set_cons_succ]
  refine DetS.done (by kernel_rfl) (fun W hS => ?_) _
  have hbW := bnext hb0 hS hb0.size
  clear hS
  go_wp2
  go_ret
  exact ⟨rfl, hbW⟩

theorem own : ownKnob Tryz.prog.godebug = none := by kernel_rfl
theorem contract (H : Type) (enc : TypeId × Value → H) (W : World) (base : Nat) (args : Array Value) (ds gs : List (DataW H)) (before : List MemPlace)
    (hval : ∀ (j : Nat) t v, Tryz.f4.params[j]? = some t → args[j]? = some v → Value.okWide Tryz.prog W .any base t v)
    (hW : DataW.Whole enc Tryz.prog Tryz.f4.params.toList Rows.freshJudgesSpec.vars false W args.toList ds gs before) (hk : Rows.uptoSmall H (ds ++ gs) = true) (hmax : MaxL W) :
    Calls Tryz.prog 4 args W fun e W' => ∃ v, e = .returned v ∧ Rows.freshJudgesSpec.post enc Tryz.prog Tryz.f4 false true false false W args v W' := by
  have hW' := hW
  obtain ⟨p, q, hA0, hV, rfl, hfz, hnd⟩ := hW
  have hA : DataW.TrodAll enc Tryz.prog W 0 (fun _ => true) true Tryz.f4.params.toList args.toList ds p := hA0
  rw [Tryz.params4] at hA hval
  obtain ⟨v0, vs0, d0, ds0, p0, q0, hargs, rfl, rfl, h0, r0⟩ := trodAll_cons hA
  obtain ⟨v1, vs1, d1, ds1, p1, q1, rfl, rfl, rfl, h1, r1⟩ := trodAll_cons r0
  obtain ⟨v2, vs2, d2, ds2, p2, q2, rfl, rfl, rfl, h2, r2⟩ := trodAll_cons r1
  obtain ⟨v3, vs3, d3, ds3, p3, q3, rfl, rfl, rfl, h3, r3⟩ := trodAll_cons r2
  obtain ⟨rfl, rfl, rfl⟩ := trodAll_nil r3
  obtain rfl : args = #[v0, v1, v2, v3] := by cases args; simp_all
  obtain ⟨rfl, rfl⟩ := trodVars_none hV
  have hall := bulks.bound hk
  simp only [List.append_nil, Rows.uptoBulkAll] at hall
  have hb0 : Rows.uptoBulk d0 ≤ 1048576 := by omega
  have hb1 : Rows.uptoBulk d1 ≤ 1048576 := by omega
  have hb2 : Rows.uptoBulk d2 ≤ 1048576 := by omega
  have hb3 : Rows.uptoBulk d3 ≤ 1048576 := by omega
  clear hall
  obtain ⟨cq0, rfl, hcq0⟩ := opCtl (hval 0 37 v0 rfl rfl) h0
  obtain ⟨e1, A1, n1, c1, B1, m1, k1, rfl, he1, hr1, ht1, hn1, hm1, -⟩ := opEnt (hval 1 27 v1 rfl rfl) h1 hb1
  obtain ⟨pq2, rfl, hpq2⟩ := opPol (hval 2 29 v2 rfl rfl) h2
  obtain ⟨i3, rfl, hi3, hj3⟩ := opI (hval 3 3 v3 rfl rfl) h3
  clear hA0
  refine (walk W hmax cq0 hcq0 e1 A1 n1 c1 B1 m1 k1 he1 hr1 ht1 hn1 hm1 pq2 hpq2 i3 hi3 hj3).mono fun e W' ⟨he, hg⟩ => ?_
  subst he
  exact ⟨_, rfl, post_of_below (pa := p0 ++ (p1 ++ (p2 ++ (p3 ++ ([]))))) (pv := []) hW' (fun _ _ _ => (trodAll_cons_mk (shut_bool Tryz.underlying4 _) trodAll_mk0)) (fun sp hsp => (trodAll_cons_mk (arg_stays laidOut (by kernel_rfl) (of_decide_eq_true (by kernel_rfl)) h0 hg (fun x hx => hW'.lt x (by simp [hx])) sp (fun x hx => hsp x (by simp [hx]))) (trodAll_cons_mk (arg_stays laidOut (by kernel_rfl) (of_decide_eq_true (by kernel_rfl)) h1 hg (fun x hx => hW'.lt x (by simp [hx])) sp (fun x hx => hsp x (by simp [hx]))) (trodAll_cons_mk (arg_stays laidOut (by kernel_rfl) (of_decide_eq_true (by kernel_rfl)) h2 hg (fun x hx => hW'.lt x (by simp [hx])) sp (fun x hx => hsp x (by simp [hx]))) (trodAll_cons_mk (arg_stays laidOut (by kernel_rfl) (of_decide_eq_true (by kernel_rfl)) h3 hg (fun x hx => hW'.lt x (by simp [hx])) sp (fun x hx => hsp x (by simp [hx]))) trodAll_mk0))))) (fun _ _ => rfl) rfl
    hg (ok_one (by kernel_rfl) rfl (okWide_bool_mk Tryz.underlying4 _))⟩

/-- A world for the witness: the settled one, the listed variables holding what the program lays. -/
noncomputable def laidWorld (os : Os) : World :=
  { (World.holding Tryz.prog os ⟨#[.cells #[.string ⟨#[118, 97, 108, 117, 101, 32, 111, 117, 116, 32, 111, 102, 32, 114, 97, 110, 103, 101]⟩] 184, .cells #[.string ⟨#[105, 110, 118, 97, 108, 105, 100, 32, 115, 121, 110, 116, 97, 120]⟩] 184], #[], []⟩) with heap := ((((((((World.holding Tryz.prog os ⟨#[.cells #[.string ⟨#[118, 97, 108, 117, 101, 32, 111, 117, 116, 32, 111, 102, 32, 114, 97, 110, 103, 101]⟩] 184, .cells #[.string ⟨#[105, 110, 118, 97, 108, 105, 100, 32, 115, 121, 110, 116, 97, 120]⟩] 184], #[], []⟩).heap.modify 6 fun
      | .cells _ t frozen => .cells #[.int .u8 0, .int .u8 1, .int .u8 28, .int .u8 2, .int .u8 29, .int .u8 14, .int .u8 24, .int .u8 3, .int .u8 30, .int .u8 22, .int .u8 20, .int .u8 15, .int .u8 25, .int .u8 17, .int .u8 4, .int .u8 8, .int .u8 31, .int .u8 27, .int .u8 13, .int .u8 23, .int .u8 21, .int .u8 19, .int .u8 16, .int .u8 7, .int .u8 26, .int .u8 12, .int .u8 18, .int .u8 6, .int .u8 11, .int .u8 5, .int .u8 10, .int .u8 9] t frozen
      | o => o).modify 7 fun
      | .cells _ t frozen => .cells #[.int .u8 0, .int .u8 1, .int .u8 56, .int .u8 2, .int .u8 57, .int .u8 49, .int .u8 28, .int .u8 3, .int .u8 61, .int .u8 58, .int .u8 42, .int .u8 50, .int .u8 38, .int .u8 29, .int .u8 17, .int .u8 4, .int .u8 62, .int .u8 47, .int .u8 59, .int .u8 36, .int .u8 45, .int .u8 43, .int .u8 51, .int .u8 22, .int .u8 53, .int .u8 39, .int .u8 33, .int .u8 30, .int .u8 24, .int .u8 18, .int .u8 12, .int .u8 5, .int .u8 63, .int .u8 55, .int .u8 48, .int .u8 27, .int .u8 60, .int .u8 41, .int .u8 37, .int .u8 16, .int .u8 46, .int .u8 35, .int .u8 44, .int .u8 21, .int .u8 52, .int .u8 32, .int .u8 23, .int .u8 11, .int .u8 54, .int .u8 26, .int .u8 40, .int .u8 15, .int .u8 34, .int .u8 20, .int .u8 31, .int .u8 10, .int .u8 25, .int .u8 14, .int .u8 19, .int .u8 9, .int .u8 13, .int .u8 8, .int .u8 7, .int .u8 6] t frozen
      | o => o).modify 5 fun
      | .cells _ t frozen => .cells #[.int .u64 1, .int .u64 10, .int .u64 100, .int .u64 1000, .int .u64 10000, .int .u64 100000, .int .u64 1000000, .int .u64 10000000, .int .u64 100000000, .int .u64 1000000000, .int .u64 10000000000, .int .u64 100000000000, .int .u64 1000000000000, .int .u64 10000000000000, .int .u64 100000000000000, .int .u64 1000000000000000, .int .u64 10000000000000000, .int .u64 100000000000000000, .int .u64 1000000000000000000, .int .u64 10000000000000000000] t frozen
      | o => o).modify 2 fun
      | .cells _ t frozen => .cells #[.int .u8 128, .int .u8 191, .int .u8 160, .int .u8 191, .int .u8 128, .int .u8 159, .int .u8 144, .int .u8 191, .int .u8 128, .int .u8 143, .int .u8 0, .int .u8 0, .int .u8 0, .int .u8 0, .int .u8 0, .int .u8 0, .int .u8 0, .int .u8 0, .int .u8 0, .int .u8 0, .int .u8 0, .int .u8 0, .int .u8 0, .int .u8 0, .int .u8 0, .int .u8 0, .int .u8 0, .int .u8 0, .int .u8 0, .int .u8 0, .int .u8 0, .int .u8 0] t frozen
      | o => o).modify 4 fun
      | .cells _ t frozen => .cells #[.iface 182 (.pointer (some ⟨(World.settled Tryz.prog os).heap.size + 0, 0, none⟩))] t frozen
      | o => o).modify 3 fun
      | .cells _ t frozen => .cells #[.iface 182 (.pointer (some ⟨(World.settled Tryz.prog os).heap.size + 1, 0, none⟩))] t frozen
      | o => o).modify 1 fun
      | .cells _ t frozen => .cells (Go.Pinned.utf8FirstZ.map fun (n : Nat) => Value.int .u8 (n : Int)).toArray t frozen
      | o => o) }
theorem laid_met (os : Os) : laidMet Tryz.prog Rows.freshJudgesUptoRow.laid ((laidWorld os).forCall (fun _ _ => 0) ⟨#[], #[.agg #[.bool false, .bool false, .bool false, .bool false, .bool false, .bool false, .int .i64 0, .int .i64 0, .int .i64 0, .int .i64 0], .agg #[.string ⟨#[]⟩, .string ⟨#[]⟩, .int .i64 0, .string ⟨#[]⟩, .int .i64 0, .slice none 0 0, .slice none 0 0, .int .i64 0, .int .i64 0], .agg #[.int .i64 0, .int .i64 0, .int .i64 0, .int .i64 0], .int .i64 0], []⟩).memory :=
  laidMet_of_run' 8 (by kernel_rfl) (by kernel_rfl)

theorem reads (os : Os) {H : Type} (enc : TypeId × Value → H) : ∃ places, DataW.whole enc Tryz.prog ((laidWorld os).forCall (fun _ _ => 0) ⟨#[], #[.agg #[.bool false, .bool false, .bool false, .bool false, .bool false, .bool false, .int .i64 0, .int .i64 0, .int .i64 0, .int .i64 0], .agg #[.string ⟨#[]⟩, .string ⟨#[]⟩, .int .i64 0, .string ⟨#[]⟩, .int .i64 0, .slice none 0 0, .slice none 0 0, .int .i64 0, .int .i64 0], .agg #[.int .i64 0, .int .i64 0, .int .i64 0, .int .i64 0], .int .i64 0], []⟩).memory Tryz.f4.params.toList Rows.freshJudgesSpec.vars false #[.agg #[.bool false, .bool false, .bool false, .bool false, .bool false, .bool false, .int .i64 0, .int .i64 0, .int .i64 0, .int .i64 0], .agg #[.string ⟨#[]⟩, .string ⟨#[]⟩, .int .i64 0, .string ⟨#[]⟩, .int .i64 0, .slice none 0 0, .slice none 0 0, .int .i64 0, .int .i64 0], .agg #[.int .i64 0, .int .i64 0, .int .i64 0, .int .i64 0], .int .i64 0].toList 8 = some ([.agg [.lit (.bool false), .lit (.bool false), .lit (.bool false), .lit (.bool false), .lit (.bool false), .lit (.bool false), .lit (.int .i64 0), .lit (.int .i64 0), .lit (.int .i64 0), .lit (.int .i64 0)], .agg [.lit (.string []), .lit (.string []), .agg [.lit (.int .i64 0), .lit (.string []), .lit (.int .i64 0), .nil], .nil, .lit (.int .i64 0), .lit (.int .i64 0)], .agg [.lit (.int .i64 0), .lit (.int .i64 0), .lit (.int .i64 0), .lit (.int .i64 0)], .lit (.int .i64 0)], [], places) :=
  ⟨[], by kernel_rfl⟩

set_option maxRecDepth 100000 in
theorem liftedUpto (os : Os) (started : os.Started) (H : Type) (enc : TypeId × Value → H) (F : Stop.Interp) :
    ReturnsInHanded {} Tryz.checked os 4 .any ((Rows.OpenSpec.upto Rows.freshJudgesSpec).preRow enc Tryz.prog Tryz.f4 Rows.freshJudgesUptoRow.domain false Rows.freshJudgesUptoRow.laid) (((Rows.OpenSpec.upto Rows.freshJudgesSpec).at F).post enc Tryz.prog Tryz.f4 false true false false) := by
  obtain ⟨places, hx⟩ := reads os enc
  refine returnsInHanded_of_row (C := Tryz.checked) (s := Rows.OpenSpec.upto Rows.freshJudgesSpec) own started (by kernel_rfl) Tryz.func4
    (witness_row_atRef (enc := enc) (C := Tryz.checked) false (laidWorld os) #[.agg #[.bool false, .bool false, .bool false, .bool false, .bool false, .bool false, .int .i64 0, .int .i64 0, .int .i64 0, .int .i64 0], .agg #[.string ⟨#[]⟩, .string ⟨#[]⟩, .int .i64 0, .string ⟨#[]⟩, .int .i64 0, .slice none 0 0, .slice none 0 0, .int .i64 0, .int .i64 0], .agg #[.int .i64 0, .int .i64 0, .int .i64 0, .int .i64 0], .int .i64 0] rfl (by kernel_rfl) (by kernel_rfl) (by kernel_rfl)
      (OpenSpec.preRow_of_cond 8 hx (by kernel_rfl) (fun k hk => by cases hk; kernel_rfl) (by kernel_rfl) (laid_met os))) ?_
  intro W base args ds gs before hval hW g1 hcond g2 g3 g4 g5
  exact contract H enc W base args ds gs before hval hW (hcond _ rfl) (by first | exact maxl_of g4 | exact maxl_of g3 | exact maxl_of g2 | exact maxl_of g5 | exact maxl_of g1)

theorem saidUpto : Rows.FreshJudgesUptoSaid :=
  OpenClaim.holds_of_cond 4 Tryz.f4 rfl rfl rfl rfl rfl rfl rfl ⟨rfl, rfl, rfl, rfl, rfl⟩ rfl rfl rfl rfl rfl (by kernel_rfl) Tryz.func4 (by kernel_rfl)
    (of_decide_eq_true (by kernel_rfl)) (by unfold Func.isWrapper; first | (rw [if_pos (by decide +kernel)]; kernel_rfl) | (rw [if_neg (by decide +kernel)]; exact ⟨rfl, rfl⟩))
    (fun os started H enc _ F => by rw [OpenClaim.pre_eq_preRow]; exact liftedUpto os started H enc F)

theorem plain (f : FuncId) (fn : Func) (hf : Tryz.pinned.checked.prog.funcNamed "conduit/conduitlaw16.FreshJudges" = some f) (hfn : Tryz.pinned.checked.prog.funcs[f]? = some fn) :
    true = Tryz.pinned.checked.prog.looks [] ∧ ∀ (j : Nat) t, fn.params[j]? = some t → Tryz.pinned.checked.prog.wantsStandIn t = false := by
  obtain rfl : f = 4 := Option.some.inj ((show Tryz.prog.funcNamed "conduit/conduitlaw16.FreshJudges" = some 4 by kernel_rfl).symm.trans hf) |>.symm
  obtain rfl : fn = Tryz.f4 := (Option.some.inj (Tryz.func4.symm.trans hfn)).symm
  refine ⟨by kernel_rfl, fun j t ht => ?_⟩
  rw [Tryz.params4] at ht
  have hm := Array.mem_of_getElem? ht
  simp only [List.mem_toArray, List.mem_cons, List.not_mem_nil, or_false] at hm
  rcases hm with rfl | rfl | rfl | rfl
  · exact (show Tryz.prog.wantsStandIn 37 = false by kernel_rfl)
  · exact (show Tryz.prog.wantsStandIn 27 = false by kernel_rfl)
  · exact (show Tryz.prog.wantsStandIn 29 = false by kernel_rfl)
  · exact (show Tryz.prog.wantsStandIn 3 = false by kernel_rfl)

theorem proved : Rows.FreshJudgesUptoCardSaid :=
  Claim7.holds_tied_plain_at .later [] _ _ _ _ saidUpto (fun _ h => by cases h) (by kernel_rfl) (fun _ h => by cases h) freshJudgesUpto_row_tie rfl ⟨rfl, rfl⟩ (by kernel_rfl) rfl plain (by kernel_rfl)
end Go.Proofs.YtfhkgbimnfjfhaaGreatDoor.freshJudges
