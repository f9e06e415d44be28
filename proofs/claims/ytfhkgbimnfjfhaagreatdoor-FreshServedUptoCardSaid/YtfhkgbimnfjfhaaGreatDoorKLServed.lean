/- FreshServed: for every input within the second form's bound the law answers true and leaves its arguments as they were. Condition: the bulk of the arguments at most 1048576. -/
import Derived.Test.YtfhkgbimnfjfhaaGreatDoorCards
import Derived.Test.YtfhkgbimnfjfhaaGreatDoorTie
import Derived.Test.YtfhkgbimnfjfhaaGreatDoorM36
import Derived.Test.YtfhkgbimnfjfhaaGreatDoorM38
import Derived.WalkKit
import Derived.ProofKit
import Derived.OpenShut
import Derived.JoinedCond
import Derived.Deep.DeepHandedRow
import Derived.Deep.DeepWitnessRowRef
import Derived.Lib.LaidTab
set_option linter.unusedVariables false
set_option linter.unusedSimpArgs false
set_option maxRecDepth 100000
namespace Go.Proofs.YtfhkgbimnfjfhaaGreatDoor.freshServed
open Go.ChangeShapes Go.WideShapes Go.ChangeAt Go.RowKit

set_option maxRecDepth 100000
set_option maxHeartbeats 8000000 in
theorem walk (w : World) (hM : MaxL w) (q : Ctl.Ct) (hq : Frs.ctOK q) (e : Frs.Ent) (A : Option Addr) (n c : Nat) (B : Option Addr) (m k : Nat) (he : e.ok 1048576) (hl : RdF w A n e.l) (hB : RdB w B m e.b) (hn : n + 3 ≤ 1048576) (hm : m ≤ 1048576) (p : Frs.Pol) (hp : p.ok) (now : Int) (hi : -9223372036854775808 ≤ now) (hj : now ≤ 9223372036854775807) :
    Calls Tryz.prog 7 #[ctV q, entV e A n c B m k, polV p, .int .i64 now] w fun x w' => x = .returned (.bool true) ∧ Below w.heap.size w w' := by
  replace hn : n ≤ 1048576 := by omega
  have hls : FlenS e.l := he.2.2.2.1
  unfold entV polV ctV
  have hal0 := alloc_below w (.cells #[.bool q.noStore, .bool q.noCache, .bool q.priv, .bool q.pub, .bool q.must, .bool q.only, .int .i64 q.maxAge, .int .i64 q.sMaxAge, .int .i64 q.minFresh, .int .i64 q.maxStale] 37)
  have hrq := heap_alloc_new w (.cells #[.bool q.noStore, .bool q.noCache, .bool q.priv, .bool q.pub, .bool q.must, .bool q.only, .int .i64 q.maxAge, .int .i64 q.sMaxAge, .int .i64 q.minFresh, .int .i64 q.maxStale] 37)
  have hb0 := hal0
  have hal1 := alloc_below (w.alloc (.cells #[.bool q.noStore, .bool q.noCache, .bool q.priv, .bool q.pub, .bool q.must, .bool q.only, .int .i64 q.maxAge, .int .i64 q.sMaxAge, .int .i64 q.minFresh, .int .i64 q.maxStale] 37)) (.cells #[.string (bs e.key), .string (bs e.vary), .int .i64 e.st, .string (bs e.rs), .int .i64 e.mi, .slice A n c, .slice B m k, .int .i64 e.asked, .int .i64 e.got] 27)
  have hr1 := heap_alloc_new (w.alloc (.cells #[.bool q.noStore, .bool q.noCache, .bool q.priv, .bool q.pub, .bool q.must, .bool q.only, .int .i64 q.maxAge, .int .i64 q.sMaxAge, .int .i64 q.minFresh, .int .i64 q.maxStale] 37)) (.cells #[.string (bs e.key), .string (bs e.vary), .int .i64 e.st, .string (bs e.rs), .int .i64 e.mi, .slice A n c, .slice B m k, .int .i64 e.asked, .int .i64 e.got] 27)
  rw [show (w.alloc (.cells #[.bool q.noStore, .bool q.noCache, .bool q.priv, .bool q.pub, .bool q.must, .bool q.only, .int .i64 q.maxAge, .int .i64 q.sMaxAge, .int .i64 q.minFresh, .int .i64 q.maxStale] 37)).heap.size = w.heap.size + 1 by simp] at hr1
  replace hrq := row_keep hrq hal1
  replace hb0 := bnext hb0 hal1 hb0.size
  have hal2 := alloc_below ((w.alloc (.cells #[.bool q.noStore, .bool q.noCache, .bool q.priv, .bool q.pub, .bool q.must, .bool q.only, .int .i64 q.maxAge, .int .i64 q.sMaxAge, .int .i64 q.minFresh, .int .i64 q.maxStale] 37)).alloc (.cells #[.string (bs e.key), .string (bs e.vary), .int .i64 e.st, .string (bs e.rs), .int .i64 e.mi, .slice A n c, .slice B m k, .int .i64 e.asked, .int .i64 e.got] 27)) (.cells #[.int .i64 p.mn, .int .i64 p.pc, .int .i64 p.mx, .int .i64 p.ng] 29)
  have hr2 := heap_alloc_new ((w.alloc (.cells #[.bool q.noStore, .bool q.noCache, .bool q.priv, .bool q.pub, .bool q.must, .bool q.only, .int .i64 q.maxAge, .int .i64 q.sMaxAge, .int .i64 q.minFresh, .int .i64 q.maxStale] 37)).alloc (.cells #[.string (bs e.key), .string (bs e.vary), .int .i64 e.st, .string (bs e.rs), .int .i64 e.mi, .slice A n c, .slice B m k, .int .i64 e.asked, .int .i64 e.got] 27)) (.cells #[.int .i64 p.mn, .int .i64 p.pc, .int .i64 p.mx, .int .i64 p.ng] 29)
  rw [show ((w.alloc (.cells #[.bool q.noStore, .bool q.noCache, .bool q.priv, .bool q.pub, .bool q.must, .bool q.only, .int .i64 q.maxAge, .int .i64 q.sMaxAge, .int .i64 q.minFresh, .int .i64 q.maxStale] 37)).alloc (.cells #[.string (bs e.key), .string (bs e.vary), .int .i64 e.st, .string (bs e.rs), .int .i64 e.mi, .slice A n c, .slice B m k, .int .i64 e.asked, .int .i64 e.got] 27)).heap.size = w.heap.size + 1 + 1 by simp] at hr2
  replace hrq := row_keep hrq hal2
  replace hr1 := row_keep hr1 hal2
  replace hb0 := bnext hb0 hal2 hb0.size
  clear hal0 hal1 hal2
  go_enter Tryz.func7, Tryz.ntmps7
  go_upto_region 1 with fail
  generalize (((w.alloc (.cells #[.bool q.noStore, .bool q.noCache, .bool q.priv, .bool q.pub, .bool q.must, .bool q.only, .int .i64 q.maxAge, .int .i64 q.sMaxAge, .int .i64 q.minFresh, .int .i64 q.maxStale] 37)).alloc (.cells #[.string (bs e.key), .string (bs e.vary), .int .i64 e.st, .string (bs e.rs), .int .i64 e.mi, .slice A n c, .slice B m k, .int .i64 e.asked, .int .i64 e.got] 27)).alloc (.cells #[.int .i64 p.mn, .int .i64 p.pc, .int .i64 p.mx, .int .i64 p.ng] 29)) = w2 at *
  replace hl := hl.step hb0
  replace hB := hB.step hb0
  replace hM := maxl_b hM hb0
  go_wp2_with fail
  refine (alive16_any w2 hM).mono ?_
  rintro x w3 ⟨rfl, hb3⟩
  replace hrq := row_keep hrq hb3
  replace hr1 := row_keep hr1 hb3
  replace hr2 := row_keep hr2 hb3
  replace hl := hl.step hb3
  replace hB := hB.step hb3
  replace hM := maxl_b hM hb3
  replace hb0 := bnext hb0 hb3 hb0.size
  clear hb3
  have hab := Frs.age_bd e.l e.asked e.got now
  have hfb := Frs.life_bd e.l e.st e.got p
  have HI : Hid (Frs.judgeL q e.l e.st e.asked e.got p now ≠ 2 → _) := Lib.hid Frs.judge_inv
  go_upto_region 3 with fail
  go_cut [9] (fun v wc => v = .int .i64 (Frs.judgeL q e.l e.st e.asked e.got p now) ∧ Below w3.heap.size w3 wc)
  case first =>
    refine DA.wp_region (n := 7) (V := fun i u => match i with | 0 => u = .agg #[.bool q.noStore, .bool q.noCache, .bool q.priv, .bool q.pub, .bool q.must, .bool q.only, .int .i64 q.maxAge, .int .i64 q.sMaxAge, .int .i64 q.minFresh, .int .i64 q.maxStale] | 1 => u = .agg #[.string (bs e.key), .string (bs e.vary), .int .i64 e.st, .string (bs e.rs), .int .i64 e.mi, .slice A n c, .slice B m k, .int .i64 e.asked, .int .i64 e.got] | 2 => ∃ A1 n1 c1 B1 m1 k1, u = .agg #[.string (bs e.key), .string (bs e.vary), .int .i64 e.st, .string (bs e.rs), .int .i64 e.mi, .slice A1 n1 c1, .slice B1 m1 k1, .int .i64 e.asked, .int .i64 e.got] | 3 => u = .agg #[.int .i64 p.mn, .int .i64 p.pc, .int .i64 p.mx, .int .i64 p.ng] | 4 => u = .int .i64 now | 5 => u = .int .i64 (Frs.judgeL q e.l e.st e.asked e.got p now) | _ => u = .int .i64 (Frs.judgeL q e.l e.st e.asked e.got p now)) (S := SE w3 e 2 17 98) (by kernel_rfl) rfl (SE.start rfl) ?_
    refine' DA.Det.takeE (i := 0) (v := _) rfl (fun _ => Iff.rfl) (by kernel_rfl) (by kernel_rfl) (by kernel_rfl) (DA.YS.pure rfl rfl ?rp0a ?sp0a) ?np0a
    case rp0a => intro a' L W hS; obtain ⟨i0, i1, i2, i3, i4, i5, i6, i7, i8, i9, -⟩ := row_facts10 (row_keep hrq hS.1); go_simp; first | rfl | skip
    case sp0a => exact fun a' L W _ h => h.other (by decide) (by simp) (Below.refl _ _)
    try simp only [Act.put, List.setIfInBounds_toArray, List.set_cons_zero, List.set_cons_succ]
    refine' DA.Det.takeE (i := 1) (v := _) rfl (fun _ => Iff.rfl) (by kernel_rfl) (by kernel_rfl) (by kernel_rfl) (DA.YS.pure rfl rfl ?rp1a ?sp1a) ?np1a
    case rp1a => intro a' L W hS; obtain ⟨k0, k1, k2, k3, k4, k5, k6, k7, k8, -⟩ := row_facts9 (row_keep hr1 hS.1); go_simp; first | rfl | skip
    case sp1a => exact fun a' L W _ h => h.other (by decide) (by simp) (Below.refl _ _)
    try simp only [Act.put, List.setIfInBounds_toArray, List.set_cons_zero, List.set_cons_succ]
    refine' DA.Det.takeL (i := 2) rfl ⟨_, none, 0, 0, none, 0, 0, rfl⟩ (by kernel_rfl) (by kernel_rfl) (by kernel_rfl) (DA.YS.call (f := _) (args := _) rfl ?rp2a ?cp2a) ?np2a
    case rp2a => intro W; go_simp; constructor <;> rfl
    case cp2a =>
      intro a' L W hL hS
      have hC := copyEntry_any e A n c B m k W (hl.step hS.1) hn (hB.step hS.1) (by omega)
      unfold entV at hC
      refine hC.mono ?_
      rintro e9 w9 ⟨A1, n1, c1, B1, m1, k1, rfl, hl1, hB1, hb9⟩
      exact ⟨_, rfl, ⟨A1, n1, c1, B1, m1, k1, rfl⟩, hS.made (by decide) hb9 (by have := hl1.1; have := hl.1; omega) (by have := hB1.1; have := hB.1; omega) hl1 hB1⟩
    rintro v2 ⟨A1, n1, c1, B1, m1, k1, rfl⟩
    try simp only [Act.put, List.setIfInBounds_toArray, List.set_cons_zero, List.set_cons_succ]
    refine' DA.Det.takeE (i := 3) (v := _) rfl (fun _ => Iff.rfl) (by kernel_rfl) (by kernel_rfl) (by kernel_rfl) (DA.YS.pure rfl rfl ?rp3a ?sp3a) ?np3a
    case rp3a => intro a' L W hS; obtain ⟨j0, j1, j2, j3, -⟩ := row_facts4 (row_keep hr2 hS.1); go_simp; first | rfl | skip
    case sp3a => exact fun a' L W _ h => h.other (by decide) (by simp) (Below.refl _ _)
    try simp only [Act.put, List.setIfInBounds_toArray, List.set_cons_zero, List.set_cons_succ]
    refine' DA.Det.takeE (i := 4) (v := _) rfl (fun _ => Iff.rfl) (by kernel_rfl) (by kernel_rfl) (by kernel_rfl) (DA.YS.pure rfl rfl ?rp4a ?sp4a) ?np4a
    case rp4a => intro a' L W hS; go_simp; first | rfl | skip
    case sp4a => exact fun a' L W _ h => h.other (by decide) (by simp) (Below.refl _ _)
    try simp only [Act.put, List.setIfInBounds_toArray, List.set_cons_zero, List.set_cons_succ]
    refine' DA.Det.takeE (i := 5) (v := _) rfl (fun _ => Iff.rfl) (by kernel_rfl) (by kernel_rfl) (by kernel_rfl) (callE (f := _) (args := _) rfl ?rp5a ?cp5a) ?np5a
    case rp5a => intro W; go_simp; constructor <;> rfl
    case cp5a =>
      intro a' L W he9 hL hd hS
      have h2 : L.getD 2 false = true := by have := hd ⟨2, .data⟩ (by simp) (by kernel_rfl); exact this
      obtain ⟨s1, s2, s3, s4⟩ := hS.see h2 (A := A1) (n := n1) (c := c1) (B := B1) (m := m1) (k := k1) (he9 (.tmp 17) (by simp [Op.operands, Call.operands]))
      have hC := judge_any q e A1 n1 c1 B1 m1 k1 p now W (maxl_b hM hS.1) s3 s1 hls
      unfold entV at hC
      refine hC.mono ?_
      rintro e9 w9 ⟨rfl, hb9⟩
      exact ⟨_, rfl, rfl, hS.other (by decide) (by simp) hb9⟩
    try simp only [Act.put, List.setIfInBounds_toArray, List.set_cons_zero, List.set_cons_succ]
    refine' DA.Det.takeE (i := 6) (v := _) rfl (fun _ => Iff.rfl) (by kernel_rfl) (by kernel_rfl) (by kernel_rfl) (DA.YS.pure rfl rfl ?rp6a ?sp6a) ?np6a
    case rp6a => intro a' L W hS; go_simp; first | rfl | skip
    case sp6a => exact fun a' L W _ h => h.other (by decide) (by simp) (Below.refl _ _)
    try simp only [Act.put, List.setIfInBounds_toArray, List.set_cons_zero, List.set_cons_succ]
    refine DA.Det.done (by kernel_rfl) (fun W hS => ?_) _
    have hbW := hS.1
    clear hS
    go_wp2
    go_meet
    case rel => exact ⟨rfl, hbW⟩
  case rest =>
    obtain ⟨rfl, hb7⟩ := hcut
    replace hrq := row_keep hrq hb7
    replace hr1 := row_keep hr1 hb7
    replace hr2 := row_keep hr2 hb7
    replace hl := hl.step hb7
    replace hB := hB.step hb7
    replace hM := maxl_b hM hb7
    replace hb0 := bnext hb0 hb7 hb0.size
    clear hb7
    go_upto_region 4 with fail
    obtain ⟨a0, a1, a2, a3, a4, a5, a6, a7, a8, -⟩ := row_facts9 hr1
    have hC := copyEntry_any e A n c B m k _ hl hn hB (by omega)
    unfold entV at hC
    go_wp2_with fail
    refine hC.mono ?_
    rintro x wA ⟨A1, n1, c1, B1, m1, k1, rfl, hl1, hB1, hb4⟩
    have hb4x := hb4
    clear hC
    clear a0 a1 a2 a3 a4 a5 a6 a7 a8
    have hn1 : n1 ≤ 1048576 := by have := hl1.1; have := hl.1; omega
    replace hr1 := row_keep hr1 hb4
    replace hl := hl.step hb4
    replace hB := hB.step hb4
    replace hM := maxl_b hM hb4
    replace hb0 := bnext hb0 hb4 hb0.size
    clear hb4
    have hC := age_any e A1 n1 c1 B1 m1 k1 (now) wA hl1 hn1 hls
    unfold entV at hC
    go_wp2_with fail
    refine hC.mono ?_
    rintro x wB ⟨rfl, hb5⟩
    have hb5x := hb5
    clear hC hl1 hB1 hn1
    replace hr1 := row_keep hr1 hb5
    replace hl := hl.step hb5
    replace hB := hB.step hb5
    replace hM := maxl_b hM hb5
    replace hb0 := bnext hb0 hb5 hb0.size
    clear hb5
    replace hrq := row_keep (row_keep hrq hb4x) hb5x
    replace hr2 := row_keep (row_keep hr2 hb4x) hb5x
    clear hb4x hb5x
    go_upto_region 5 with fail
    obtain ⟨wd, hwd⟩ : ∃ wd, wd = wB := ⟨_, rfl⟩
    subst hwd
    go_cut [11] (fun v wc => v = .int .i64 (Frs.lifeL e.l e.st e.got p) ∧ Below wd.heap.size wd wc)
    case first =>
      refine DA.wp_region (n := 5) (V := fun i u => match i with | 0 => u = .agg #[.string (bs e.key), .string (bs e.vary), .int .i64 e.st, .string (bs e.rs), .int .i64 e.mi, .slice A n c, .slice B m k, .int .i64 e.asked, .int .i64 e.got] | 1 => ∃ A1 n1 c1 B1 m1 k1, u = .agg #[.string (bs e.key), .string (bs e.vary), .int .i64 e.st, .string (bs e.rs), .int .i64 e.mi, .slice A1 n1 c1, .slice B1 m1 k1, .int .i64 e.asked, .int .i64 e.got] | 2 => u = .agg #[.int .i64 p.mn, .int .i64 p.pc, .int .i64 p.mx, .int .i64 p.ng] | 3 => u = .int .i64 (Frs.lifeL e.l e.st e.got p) | _ => u = .int .i64 (Frs.lifeL e.l e.st e.got p)) (S := SE wd e 1 26 98) (by kernel_rfl) rfl (SE.start rfl) ?_
      refine' DA.Det.takeE (i := 0) (v := _) rfl (fun _ => Iff.rfl) (by kernel_rfl) (by kernel_rfl) (by kernel_rfl) (DA.YS.pure rfl rfl ?rp0b ?sp0b) ?np0b
      case rp0b => intro a' L W hS; obtain ⟨k0, k1, k2, k3, k4, k5, k6, k7, k8, -⟩ := row_facts9 (row_keep hr1 hS.1); go_simp; first | rfl | skip
      case sp0b => exact fun a' L W _ h => h.other (by decide) (by simp) (Below.refl _ _)
      try simp only [Act.put, List.setIfInBounds_toArray, List.set_cons_zero, List.set_cons_succ]
      refine' DA.Det.takeL (i := 1) rfl ⟨_, none, 0, 0, none, 0, 0, rfl⟩ (by kernel_rfl) (by kernel_rfl) (by kernel_rfl) (DA.YS.call (f := _) (args := _) rfl ?rp1b ?cp1b) ?np1b
      case rp1b => intro W; go_simp; constructor <;> rfl
      case cp1b =>
        intro a' L W hL hS
        have hC := copyEntry_any e A n c B m k W (hl.step hS.1) hn (hB.step hS.1) (by omega)
        unfold entV at hC
        refine hC.mono ?_
        rintro e9 w9 ⟨A1, n1, c1, B1, m1, k1, rfl, hl1, hB1, hb9⟩
        exact ⟨_, rfl, ⟨A1, n1, c1, B1, m1, k1, rfl⟩, hS.made (by decide) hb9 (by have := hl1.1; have := hl.1; omega) (by have := hB1.1; have := hB.1; omega) hl1 hB1⟩
      rintro v1 ⟨A1, n1, c1, B1, m1, k1, rfl⟩
      try simp only [Act.put, List.setIfInBounds_toArray, List.set_cons_zero, List.set_cons_succ]
      refine' DA.Det.takeE (i := 2) (v := _) rfl (fun _ => Iff.rfl) (by kernel_rfl) (by kernel_rfl) (by kernel_rfl) (DA.YS.pure rfl rfl ?rp2b ?sp2b) ?np2b
      case rp2b => intro a' L W hS; obtain ⟨j0, j1, j2, j3, -⟩ := row_facts4 (row_keep hr2 hS.1); go_simp; first | rfl | skip
      case sp2b => exact fun a' L W _ h => h.other (by decide) (by simp) (Below.refl _ _)
      try simp only [Act.put, List.setIfInBounds_toArray, List.set_cons_zero, List.set_cons_succ]
      refine' DA.Det.takeE (i := 3) (v := _) rfl (fun _ => Iff.rfl) (by kernel_rfl) (by kernel_rfl) (by kernel_rfl) (callE (f := _) (args := _) rfl ?rp3b ?cp3b) ?np3b
      case rp3b => intro W; go_simp; constructor <;> rfl
      case cp3b =>
        intro a' L W he9 hL hd hS
        have h2 : L.getD 1 false = true := by have := hd ⟨1, .data⟩ (by simp) (by kernel_rfl); exact this
        obtain ⟨s1, s2, s3, s4⟩ := hS.see h2 (A := A1) (n := n1) (c := c1) (B := B1) (m := m1) (k := k1) (he9 (.tmp 26) (by simp [Op.operands, Call.operands]))
        have hC := life_any e A1 n1 c1 B1 m1 k1 p W (maxl_b hM hS.1) s3 s1 hls
        unfold entV at hC
        refine hC.mono ?_
        rintro e9 w9 ⟨rfl, hb9⟩
        exact ⟨_, rfl, rfl, hS.other (by decide) (by simp) hb9⟩
      try simp only [Act.put, List.setIfInBounds_toArray, List.set_cons_zero, List.set_cons_succ]
      refine' DA.Det.takeE (i := 4) (v := _) rfl (fun _ => Iff.rfl) (by kernel_rfl) (by kernel_rfl) (by kernel_rfl) (DA.YS.pure rfl rfl ?rp4b ?sp4b) ?np4b
      case rp4b => intro a' L W hS; go_simp; first | rfl | skip
      case sp4b => exact fun a' L W _ h => h.other (by decide) (by simp) (Below.refl _ _)
      try simp only [Act.put, List.setIfInBounds_toArray, List.set_cons_zero, List.set_cons_succ]
      refine DA.Det.done (by kernel_rfl) (fun W hS => ?_) _
      have hbW := hS.1
      clear hS
      go_wp2
      go_meet
      case rel => exact ⟨rfl, hbW⟩
    case rest =>
      obtain ⟨rfl, hb8⟩ := hcut
      replace hrq := row_keep hrq hb8
      replace hr1 := row_keep hr1 hb8
      replace hr2 := row_keep hr2 hb8
      replace hl := hl.step hb8
      replace hB := hB.step hb8
      replace hM := maxl_b hM hb8
      replace hb0 := bnext hb0 hb8 hb0.size
      clear hb8
      obtain ⟨a0, a1, a2, a3, a4, a5, a6, a7, a8, -⟩ := row_facts9 hr1
      go_wp2_with fail
      refine (copyFields_own A n c e.l _ hl (by omega)).mono ?_
      rintro x wE ⟨A1, n1, c1, rfl, hF1, hb9⟩
      clear a0 a1 a2 a3 a4 a5 a6 a7 a8
      replace hrq := row_keep hrq hb9
      replace hr1 := row_keep hr1 hb9
      replace hr2 := row_keep hr2 hb9
      replace hl := hl.step hb9
      replace hB := hB.step hb9
      replace hM := maxl_b hM hb9
      replace hb0 := bnext hb0 hb9 hb0.size
      clear hb9
      have hn1 : n1 ≤ 1048576 := by have := hF1.rd.1; have := hl.1; omega
      have hC := cparse_any A1 n1 c1 e.l _ hM hF1.rd hn1 hls
      unfold ctV at hC
      go_wp2_with fail
      refine hC.mono ?_
      rintro x wF ⟨rfl, hb9⟩
      clear hC hF1 hn1
      replace hrq := row_keep hrq hb9
      replace hr1 := row_keep hr1 hb9
      replace hr2 := row_keep hr2 hb9
      replace hl := hl.step hb9
      replace hB := hB.step hb9
      replace hM := maxl_b hM hb9
      replace hb0 := bnext hb0 hb9 hb0.size
      clear hb9
      clear hl hB hM hls he
      generalize Ctl.ctlL e.l = dd at *
      go_upto_region 7 with fail
      have hal := alloc_below wF (.cells #[.bool dd.noStore, .bool dd.noCache, .bool dd.priv, .bool dd.pub, .bool dd.must, .bool dd.only, .int .i64 dd.maxAge, .int .i64 dd.sMaxAge, .int .i64 dd.minFresh, .int .i64 dd.maxStale] 37)
      have hr3 := heap_alloc_new wF (.cells #[.bool dd.noStore, .bool dd.noCache, .bool dd.priv, .bool dd.pub, .bool dd.must, .bool dd.only, .int .i64 dd.maxAge, .int .i64 dd.sMaxAge, .int .i64 dd.minFresh, .int .i64 dd.maxStale] 37)
      replace hrq := row_keep hrq hal
      replace hb0 := bnext hb0 hal hb0.size
      generalize wF.alloc (.cells #[.bool dd.noStore, .bool dd.noCache, .bool dd.priv, .bool dd.pub, .bool dd.must, .bool dd.only, .int .i64 dd.maxAge, .int .i64 dd.sMaxAge, .int .i64 dd.minFresh, .int .i64 dd.maxStale] 37) = wG at *
      generalize wF.heap.size = g3 at *
      clear hal hr1 hr2
      generalize Frs.judgeL q e.l e.st e.asked e.got p now = j at *
      generalize Frs.lifeL e.l e.st e.got p = f at *
      generalize Frs.ageL e.l e.asked e.got now = a at *
      obtain ⟨xs, xn, xp, xu, xm, xo, xA, xS, xF, xT⟩ := q
      obtain ⟨ys, yn, yp, yu, ym, yo, yA, yS, yF, yT⟩ := dd
      dsimp only at *
      obtain ⟨c0, c1, c2, c3, c4, c5, c6, c7, c8, c9, -⟩ := row_facts10 hrq
      obtain ⟨d0, d1, d2, d3, d4, d5, d6, d7, d8, d9, -⟩ := row_facts10 hr3
      clear hrq hr3
      have t1 : ¬ f < 0 := by omega
      have t2 : ¬ 2147483648 < f := by omega
      by_cases h2 : j = 2
      · subst h2
        go_wp2
        go_ret
        exact ⟨rfl, hb0⟩
      obtain ⟨i1, i2, i3, i4, i5, i6⟩ := HI.out h2
      have q2 : (j == 2) = false := by simpa using h2
      have q3 : IntKind.i64.wrap (f - a) = f - a := IntWalk.i64_in _ (by omega)
      have q4 : IntKind.i64.wrap (a - f) = a - f := IntWalk.i64_in _ (by omega)
      clear HI h2
      subst i1 i2
      by_cases eA : xA = -1
      · subst eA
        clear i3
        by_cases eF : xF = -1
        · subst eF
          clear i4
          by_cases h0 : j = 0
          · have i7 := i5 h0
            subst h0
            clear i5 i6
            go_wp2
            go_ret
            exact ⟨rfl, hb0⟩
          · obtain ⟨i7, i8, i9, i10⟩ := i6 h0
            have q5 : (j == 0) = false := by simpa using h0
            subst i8
            clear i5 i6 h0
            go_wp2
            go_ret
            exact ⟨rfl, hb0⟩
        · have qF : (xF != -1) = true := by simpa using eF
          have hF : ¬ f - a < xF := fun h => i4 ⟨eF, h⟩
          clear i4
          by_cases h0 : j = 0
          · have i7 := i5 h0
            subst h0
            clear i5 i6
            go_wp2
            go_ret
            exact ⟨rfl, hb0⟩
          · obtain ⟨i7, i8, i9, i10⟩ := i6 h0
            have q5 : (j == 0) = false := by simpa using h0
            subst i8
            clear i5 i6 h0
            go_wp2
            go_ret
            exact ⟨rfl, hb0⟩
      · have qA : (xA != -1) = true := by simpa using eA
        have hA : ¬ xA < a := fun h => i3 ⟨eA, h⟩
        clear i3
        by_cases eF : xF = -1
        · subst eF
          clear i4
          by_cases h0 : j = 0
          · have i7 := i5 h0
            subst h0
            clear i5 i6
            go_wp2
            go_ret
            exact ⟨rfl, hb0⟩
          · obtain ⟨i7, i8, i9, i10⟩ := i6 h0
            have q5 : (j == 0) = false := by simpa using h0
            subst i8
            clear i5 i6 h0
            go_wp2
            go_ret
            exact ⟨rfl, hb0⟩
        · have qF : (xF != -1) = true := by simpa using eF
          have hF : ¬ f - a < xF := fun h => i4 ⟨eF, h⟩
          clear i4
          by_cases h0 : j = 0
          · have i7 := i5 h0
            subst h0
            clear i5 i6
            go_wp2
            go_ret
            exact ⟨rfl, hb0⟩
          · obtain ⟨i7, i8, i9, i10⟩ := i6 h0
            have q5 : (j == 0) = false := by simpa using h0
            subst i8
            clear i5 i6 h0
            go_wp2
            go_ret
            exact ⟨rfl, hb0⟩

theorem own : ownKnob Tryz.prog.godebug = none := by kernel_rfl
theorem contract (H : Type) (enc : TypeId × Value → H) (W : World) (base : Nat) (args : Array Value) (ds gs : List (DataW H)) (before : List MemPlace)
    (hval : ∀ (j : Nat) t v, Tryz.f7.params[j]? = some t → args[j]? = some v → Value.okWide Tryz.prog W .any base t v)
    (hW : DataW.Whole enc Tryz.prog Tryz.f7.params.toList Rows.freshServedSpec.vars false W args.toList ds gs before) (hk : Rows.uptoSmall H (ds ++ gs) = true) (hmax : MaxL W) :
    Calls Tryz.prog 7 args W fun e W' => ∃ v, e = .returned v ∧ Rows.freshServedSpec.post enc Tryz.prog Tryz.f7 false true false false W args v W' := by
  have hW' := hW
  obtain ⟨p, q, hA0, hV, rfl, hfz, hnd⟩ := hW
  have hA : DataW.TrodAll enc Tryz.prog W 0 (fun _ => true) true Tryz.f7.params.toList args.toList ds p := hA0
  rw [Tryz.params7] at hA hval
  obtain ⟨v0, vs0, d0, ds0, p0, q0, hargs, rfl, rfl, h0, r0⟩ := trodAll_cons hA
  obtain ⟨v1, vs1, d1, ds1, p1, q1, rfl, rfl, rfl, h1, r1⟩ := trodAll_cons r0
  obtain ⟨v2, vs2, d2, ds2, p2, q2, rfl, rfl, rfl, h2, r2⟩ := trodAll_cons r1
  obtain ⟨v3, vs3, d3, ds3, p3, q3, rfl, rfl, rfl, h3, r3⟩ := trodAll_cons r2
  obtain ⟨rfl, rfl, rfl⟩ := trodAll_nil r3
  obtain rfl : args = #[v0, v1, v2, v3] := by cases args; simp_all
  obtain ⟨rfl, rfl⟩ := trodVars_none hV
  have hall := bulks.bound hk
  simp only [List.append_nil, Rows.uptoBulkAll] at hall
  have hb0 : Rows.uptoBulk d0 ≤ 1048576 := by omega
  have hb1 : Rows.uptoBulk d1 ≤ 1048576 := by omega
  have hb2 : Rows.uptoBulk d2 ≤ 1048576 := by omega
  have hb3 : Rows.uptoBulk d3 ≤ 1048576 := by omega
  clear hall
  obtain ⟨cq0, rfl, hcq0⟩ := opCtl (hval 0 37 v0 rfl rfl) h0
  obtain ⟨e1, A1, n1, c1, B1, m1, k1, rfl, he1, hr1, ht1, hn1, hm1, -⟩ := opEnt (hval 1 27 v1 rfl rfl) h1 hb1
  obtain ⟨pq2, rfl, hpq2⟩ := opPol (hval 2 29 v2 rfl rfl) h2
  obtain ⟨i3, rfl, hi3, hj3⟩ := opI (hval 3 3 v3 rfl rfl) h3
  clear hA0
  refine (walk W hmax cq0 hcq0 e1 A1 n1 c1 B1 m1 k1 he1 hr1 ht1 hn1 hm1 pq2 hpq2 i3 hi3 hj3).mono fun e W' ⟨he, hg⟩ => ?_
  subst he
  exact ⟨_, rfl, post_of_below (pa := p0 ++ (p1 ++ (p2 ++ (p3 ++ ([]))))) (pv := []) hW' (fun _ _ _ => (trodAll_cons_mk (shut_bool Tryz.underlying4 _) trodAll_mk0)) (fun sp hsp => (trodAll_cons_mk (arg_stays laidOut (by kernel_rfl) (of_decide_eq_true (by kernel_rfl)) h0 hg (fun x hx => hW'.lt x (by simp [hx])) sp (fun x hx => hsp x (by simp [hx]))) (trodAll_cons_mk (arg_stays laidOut (by kernel_rfl) (of_decide_eq_true (by kernel_rfl)) h1 hg (fun x hx => hW'.lt x (by simp [hx])) sp (fun x hx => hsp x (by simp [hx]))) (trodAll_cons_mk (arg_stays laidOut (by kernel_rfl) (of_decide_eq_true (by kernel_rfl)) h2 hg (fun x hx => hW'.lt x (by simp [hx])) sp (fun x hx => hsp x (by simp [hx]))) (trodAll_cons_mk (arg_stays laidOut (by kernel_rfl) (of_decide_eq_true (by kernel_rfl)) h3 hg (fun x hx => hW'.lt x (by simp [hx])) sp (fun x hx => hsp x (by simp [hx]))) trodAll_mk0))))) (fun _ _ => rfl) rfl
    hg (ok_one (by kernel_rfl) rfl (okWide_bool_mk Tryz.underlying4 _))⟩

/-- A world for the witness: the settled one, the listed variables holding what the program lays. -/
noncomputable def laidWorld (os : Os) : World :=
  { (World.holding Tryz.prog os ⟨#[.cells #[.string ⟨#[118, 97, 108, 117, 101, 32, 111, 117, 116, 32, 111, 102, 32, 114, 97, 110, 103, 101]⟩] 184, .cells #[.string ⟨#[105, 110, 118, 97, 108, 105, 100, 32, 115, 121, 110, 116, 97, 120]⟩] 184], #[], []⟩) with heap := ((((((((World.holding Tryz.prog os ⟨#[.cells #[.string ⟨#[118, 97, 108, 117, 101, 32, 111, 117, 116, 32, 111, 102, 32, 114, 97, 110, 103, 101]⟩] 184, .cells #[.string ⟨#[105, 110, 118, 97, 108, 105, 100, 32, 115, 121, 110, 116, 97, 120]⟩] 184], #[], []⟩).heap.modify 6 fun
      | .cells _ t frozen => .cells #[.int .u8 0, .int .u8 1, .int .u8 28, .int .u8 2, .int .u8 29, .int .u8 14, .int .u8 24, .int .u8 3, .int .u8 30, .int .u8 22, .int .u8 20, .int .u8 15, .int .u8 25, .int .u8 17, .int .u8 4, .int .u8 8, .int .u8 31, .int .u8 27, .int .u8 13, .int .u8 23, .int .u8 21, .int .u8 19, .int .u8 16, .int .u8 7, .int .u8 26, .int .u8 12, .int .u8 18, .int .u8 6, .int .u8 11, .int .u8 5, .int .u8 10, .int .u8 9] t frozen
      | o => o).modify 7 fun
      | .cells _ t frozen => .cells #[.int .u8 0, .int .u8 1, .int .u8 56, .int .u8 2, .int .u8 57, .int .u8 49, .int .u8 28, .int .u8 3, .int .u8 61, .int .u8 58, .int .u8 42, .int .u8 50, .int .u8 38, .int .u8 29, .int .u8 17, .int .u8 4, .int .u8 62, .int .u8 47, .int .u8 59, .int .u8 36, .int .u8 45, .int .u8 43, .int .u8 51, .int .u8 22, .int .u8 53, .int .u8 39, .int .u8 33, .int .u8 30, .int .u8 24, .int .u8 18, .int .u8 12, .int .u8 5, .int .u8 63, .int .u8 55, .int .u8 48, .int .u8 27, .int .u8 60, .int .u8 41, .int .u8 37, .int .u8 16, .int .u8 46, .int .u8 35, .int .u8 44, .int .u8 21, .int .u8 52, .int .u8 32, .int .u8 23, .int .u8 11, .int .u8 54, .int .u8 26, .int .u8 40, .int .u8 15, .int .u8 34, .int .u8 20, .int .u8 31, .int .u8 10, .int .u8 25, .int .u8 14, .int .u8 19, .int .u8 9, .int .u8 13, .int .u8 8, .int .u8 7, .int .u8 6] t frozen
      | o => o).modify 5 fun
      | .cells _ t frozen => .cells #[.int .u64 1, .int .u64 10, .int .u64 100, .int .u64 1000, .int .u64 10000, .int .u64 100000, .int .u64 1000000, .int .u64 10000000, .int .u64 100000000, .int .u64 1000000000, .int .u64 10000000000, .int .u64 100000000000, .int .u64 1000000000000, .int .u64 10000000000000, .int .u64 100000000000000, .int .u64 1000000000000000, .int .u64 10000000000000000, .int .u64 100000000000000000, .int .u64 1000000000000000000, .int .u64 10000000000000000000] t frozen
      | o => o).modify 2 fun
      | .cells _ t frozen => .cells #[.int .u8 128, .int .u8 191, .int .u8 160, .int .u8 191, .int .u8 128, .int .u8 159, .int .u8 144, .int .u8 191, .int .u8 128, .int .u8 143, .int .u8 0, .int .u8 0, .int .u8 0, .int .u8 0, .int .u8 0, .int .u8 0, .int .u8 0, .int .u8 0, .int .u8 0, .int .u8 0, .int .u8 0, .int .u8 0, .int .u8 0, .int .u8 0, .int .u8 0, .int .u8 0, .int .u8 0, .int .u8 0, .int .u8 0, .int .u8 0, .int .u8 0, .int .u8 0] t frozen
      | o => o).modify 4 fun
      | .cells _ t frozen => .cells #[.iface 182 (.pointer (some ⟨(World.settled Tryz.prog os).heap.size + 0, 0, none⟩))] t frozen
      | o => o).modify 3 fun
      | .cells _ t frozen => .cells #[.iface 182 (.pointer (some ⟨(World.settled Tryz.prog os).heap.size + 1, 0, none⟩))] t frozen
      | o => o).modify 1 fun
      | .cells _ t frozen => .cells (Go.Pinned.utf8FirstZ.map fun (n : Nat) => Value.int .u8 (n : Int)).toArray t frozen
      | o => o) }
theorem laid_met (os : Os) : laidMet Tryz.prog Rows.freshServedUptoRow.laid ((laidWorld os).forCall (fun _ _ => 0) ⟨#[], #[.agg #[.bool false, .bool false, .bool false, .bool false, .bool false, .bool false, .int .i64 0, .int .i64 0, .int .i64 0, .int .i64 0], .agg #[.string ⟨#[]⟩, .string ⟨#[]⟩, .int .i64 0, .string ⟨#[]⟩, .int .i64 0, .slice none 0 0, .slice none 0 0, .int .i64 0, .int .i64 0], .agg #[.int .i64 0, .int .i64 0, .int .i64 0, .int .i64 0], .int .i64 0], []⟩).memory :=
  laidMet_of_run' 8 (by kernel_rfl) (by kernel_rfl)

theorem reads (os : Os) {H : Type} (enc : TypeId × Value → H) : ∃ places, DataW.whole enc Tryz.prog ((laidWorld os).forCall (fun _ _ => 0) ⟨#[], #[.agg #[.bool false, .bool false, .bool false, .bool false, .bool false, .bool false, .int .i64 0, .int .i64 0, .int .i64 0, .int .i64 0], .agg #[.string ⟨#[]⟩, .string ⟨#[]⟩, .int .i64 0, .string ⟨#[]⟩, .int .i64 0, .slice none 0 0, .slice none 0 0, .int .i64 0, .int .i64 0], .agg #[.int .i64 0, .int .i64 0, .int .i64 0, .int .i64 0], .int .i64 0], []⟩).memory Tryz.f7.params.toList Rows.freshServedSpec.vars false #[.agg #[.bool false, .bool false, .bool false, .bool false, .bool false, .bool false, .int .i64 0, .int .i64 0, .int .i64 0, .int .i64 0], .agg #[.string ⟨#[]⟩, .string ⟨#[]⟩, .int .i64 0, .string ⟨#[]⟩, .int .i64 0, .slice none 0 0, .slice none 0 0, .int .i64 0, .int .i64 0], .agg #[.int .i64 0, .int .i64 0, .int .i64 0, .int .i64 0], .int .i64 0].toList 8 = some ([.agg [.lit (.bool false), .lit (.bool false), .lit (.bool false), .lit (.bool false), .lit (.bool false), .lit (.bool false), .lit (.int .i64 0), .lit (.int .i64 0), .lit (.int .i64 0), .lit (.int .i64 0)], .agg [.lit (.string []), .lit (.string []), .agg [.lit (.int .i64 0), .lit (.string []), .lit (.int .i64 0), .nil], .nil, .lit (.int .i64 0), .lit (.int .i64 0)], .agg [.lit (.int .i64 0), .lit (.int .i64 0), .lit (.int .i64 0), .lit (.int .i64 0)], .lit (.int .i64 0)], [], places) :=
  ⟨[], by kernel_rfl⟩

set_option maxRecDepth 100000 in
theorem liftedUpto (os : Os) (started : os.Started) (H : Type) (enc : TypeId × Value → H) (F : Stop.Interp) :
    ReturnsInHanded {} Tryz.checked os 7 .any ((Rows.OpenSpec.upto Rows.freshServedSpec).preRow enc Tryz.prog Tryz.f7 Rows.freshServedUptoRow.domain false Rows.freshServedUptoRow.laid) (((Rows.OpenSpec.upto Rows.freshServedSpec).at F).post enc Tryz.prog Tryz.f7 false true false false) := by
  obtain ⟨places, hx⟩ := reads os enc
  refine returnsInHanded_of_row (C := Tryz.checked) (s := Rows.OpenSpec.upto Rows.freshServedSpec) own started (by kernel_rfl) Tryz.func7
    (witness_row_atRef (enc := enc) (C := Tryz.checked) false (laidWorld os) #[.agg #[.bool false, .bool false, .bool false, .bool false, .bool false, .bool false, .int .i64 0, .int .i64 0, .int .i64 0, .int .i64 0], .agg #[.string ⟨#[]⟩, .string ⟨#[]⟩, .int .i64 0, .string ⟨#[]⟩, .int .i64 0, .slice none 0 0, .slice none 0 0, .int .i64 0, .int .i64 0], .agg #[.int .i64 0, .int .i64 0, .int .i64 0, .int .i64 0], .int .i64 0] rfl (by kernel_rfl) (by kernel_rfl) (by kernel_rfl)
      (OpenSpec.preRow_of_cond 8 hx (by kernel_rfl) (fun k hk => by cases hk; kernel_rfl) (by kernel_rfl) (laid_met os))) ?_
  intro W base args ds gs before hval hW g1 hcond g2 g3 g4 g5
  exact contract H enc W base args ds gs before hval hW (hcond _ rfl) (by first | exact maxl_of g4 | exact maxl_of g3 | exact maxl_of g2 | exact maxl_of g5 | exact maxl_of g1)

theorem saidUpto : Rows.FreshServedUptoSaid :=
  OpenClaim.holds_of_cond 7 Tryz.f7 rfl rfl rfl rfl rfl rfl rfl ⟨rfl, rfl, rfl, rfl, rfl⟩ rfl rfl rfl rfl rfl (by kernel_rfl) Tryz.func7 (by kernel_rfl)
    (of_decide_eq_true (by kernel_rfl)) (by unfold Func.isWrapper; first | (rw [if_pos (by decide +kernel)]; kernel_rfl) | (rw [if_neg (by decide +kernel)]; exact ⟨rfl, rfl⟩))
    (fun os started H enc _ F => by rw [OpenClaim.pre_eq_preRow]; exact liftedUpto os started H enc F)

theorem plain (f : FuncId) (fn : Func) (hf : Tryz.pinned.checked.prog.funcNamed "conduit/conduitlaw16.FreshServed" = some f) (hfn : Tryz.pinned.checked.prog.funcs[f]? = some fn) :
    true = Tryz.pinned.checked.prog.looks [] ∧ ∀ (j : Nat) t, fn.params[j]? = some t → Tryz.pinned.checked.prog.wantsStandIn t = false := by
  obtain rfl : f = 7 := Option.some.inj ((show Tryz.prog.funcNamed "conduit/conduitlaw16.FreshServed" = some 7 by kernel_rfl).symm.trans hf) |>.symm
  obtain rfl : fn = Tryz.f7 := (Option.some.inj (Tryz.func7.symm.trans hfn)).symm
  refine ⟨by kernel_rfl, fun j t ht => ?_⟩
  rw [Tryz.params7] at ht
  have hm := Array.mem_of_getElem? ht
  simp only [List.mem_toArray, List.mem_cons, List.not_mem_nil, or_false] at hm
  rcases hm with rfl | rfl | rfl | rfl
  · exact (show Tryz.prog.wantsStandIn 37 = false by kernel_rfl)
  · exact (show Tryz.prog.wantsStandIn 27 = false by kernel_rfl)
  · exact (show Tryz.prog.wantsStandIn 29 = false by kernel_rfl)
  · exact (show Tryz.prog.wantsStandIn 3 = false by kernel_rfl)

theorem proved : Rows.FreshServedUptoCardSaid :=
  Claim7.holds_tied_plain_at .later [] _ _ _ _ saidUpto (fun _ h => by cases h) (by kernel_rfl) (fun _ h => by cases h) freshServedUpto_row_tie rfl ⟨rfl, rfl⟩ (by kernel_rfl) rfl plain (by kernel_rfl)
end Go.Proofs.YtfhkgbimnfjfhaaGreatDoor.freshServed
