/- Joined texts: Ages and lifetimes, the program's: clamp, moment, born, Age, Lifetime, Judge. The conditions stand in each line. -/
import Derived.Test.YtfhkgbimnfjfhaaGreatDoorM16
import Derived.Test.YtfhkgbimnfjfhaaGreatDoorM17
import Derived.Test.YtfhkgbimnfjfhaaGreatDoorM21
import Derived.Test.YtfhkgbimnfjfhaaGreatDoorM24
import Derived.Test.YtfhkgbimnfjfhaaGreatDoorM25
import Derived.BigQuiet
import Derived.Deep.QuietTactic
set_option linter.unusedVariables false
set_option linter.unusedSimpArgs false
namespace Go.Proofs.YtfhkgbimnfjfhaaGreatDoor
open Go.RowKit

set_option maxRecDepth 100000
set_option maxHeartbeats 400000 in
theorem clamp_any (v hi : Int) (w : World) : Calls Tryz.prog 28 #[.int .i64 v, .int .i64 hi] w fun x w' => x = .returned (.int .i64 (Frs.clampL v hi)) ∧ w = w' := by
  unfold Frs.clampL
  go_enter Tryz.func28, Tryz.ntmps28
  go_wp2
  go_ret
  exact ⟨rfl, rfl⟩
set_option maxHeartbeats 400000 in
theorem moment_any (A : Option Addr) (n c : Nat) (l : List Fld) (name : List UInt8) (w : World) (hl : RdF w A n l) (hn : n ≤ 1048576) (hls : FlenS l) (hnm : name.length ≤ 1048576) :
    Calls Tryz.prog 27 #[.slice A n c, .string (bs name)] w fun x w' => x = .returned (.tuple #[.int .i64 (Frs.momV l name), .bool (Frs.momO l name)]) ∧ Below w.heap.size w w' := by
  have hC := get_any A n c l name w hl hn hls hnm
  have hgl := Frs.get_len hls (by rw [hl.1]; exact hn) name
  have HV : Hid (Frs.momV l name = (Dt.dparse (Frs.getL l name)).1) := Lib.hid rfl
  have HO : Hid (Frs.momO l name = ((Dt.dparse (Frs.getL l name)).2 == 0)) := Lib.hid rfl
  change Calls Tryz.prog 37 _ _ fun x w' => x = .returned (.tuple #[.string (bs (Frs.getL l name)), .bool _]) ∧ _ at hC
  generalize (!(valuesL l name).isEmpty) = r at *
  generalize Frs.momV l name = mv at *
  generalize Frs.momO l name = mo at *
  generalize Frs.getL l name = s at *
  have HP := fun W => parse_any s W (by omega)
  generalize Dt.dparse s = d at *
  go_enter Tryz.func27, Tryz.ntmps27
  go_wp2_with fail
  refine hC.mono ?_
  rintro x w1 ⟨rfl, hb1⟩
  clear hC
  go_wp2_with fail
  refine (HP _).mono ?_
  rintro x w2 ⟨rfl, hb2⟩
  clear HP
  go_wp2
  go_ret2
  exact ⟨by rw [HV.out, HO.out]; rfl, bnext hb1 hb2 hb1.size⟩
set_option maxHeartbeats 400000 in
theorem born_any (e : Frs.Ent) (A : Option Addr) (n c : Nat) (B : Option Addr) (m k : Nat) (w : World) (hl : RdF w A n e.l) (hn : n ≤ 1048576) (hls : FlenS e.l) :
    Calls Tryz.prog 29 #[entV e A n c B m k] w fun x w' => x = .returned (.int .i64 (Frs.bornL e.l e.got)) ∧ Below w.heap.size w w' := by
  unfold entV
  have hb0 := alloc_below w (.cells #[.string (bs e.key), .string (bs e.vary), .int .i64 e.st, .string (bs e.rs), .int .i64 e.mi, .slice A n c, .slice B m k, .int .i64 e.asked, .int .i64 e.got] 27)
  have hr1 := heap_alloc_new w (.cells #[.string (bs e.key), .string (bs e.vary), .int .i64 e.st, .string (bs e.rs), .int .i64 e.mi, .slice A n c, .slice B m k, .int .i64 e.asked, .int .i64 e.got] 27)
  have HB : Hid (Frs.bornL e.l e.got = if Frs.momO e.l Frs.dateN = true then Frs.momV e.l Frs.dateN else Frs.clampL e.got 253402300799) := Lib.hid rfl
  generalize Frs.bornL e.l e.got = R at *
  go_enter Tryz.func29, Tryz.ntmps29
  go_upto_region 1 with fail
  generalize w.alloc (.cells #[.string (bs e.key), .string (bs e.vary), .int .i64 e.st, .string (bs e.rs), .int .i64 e.mi, .slice A n c, .slice B m k, .int .i64 e.asked, .int .i64 e.got] 27) = w2 at *
  have hC := moment_any A n c e.l Frs.DateN w2 (hl.step hb0) hn hls (by decide)
  rw [show Frs.momV e.l Frs.DateN = Frs.momV e.l Frs.dateN from Frs.momV_name rfl, show Frs.momO e.l Frs.DateN = Frs.momO e.l Frs.dateN from Frs.momO_name rfl] at hC
  generalize Frs.momV e.l Frs.dateN = mv at *
  generalize Frs.momO e.l Frs.dateN = mo at *
  obtain ⟨a0, a1, a2, a3, a4, a5, a6, a7, a8, -⟩ := row_facts9 hr1
  go_wp2_with fail
  refine hC.mono ?_
  rintro x w3 ⟨rfl, hb3⟩
  clear a0 a1 a2 a3 a4 a5 a6 a7 a8 hC
  replace hr1 := row_keep hr1 hb3
  replace hb0 := bnext hb0 hb3 hb0.size
  obtain ⟨a0, a1, a2, a3, a4, a5, a6, a7, a8, -⟩ := row_facts9 hr1
  cases mo with
  | true =>
    go_wp2
    go_ret
    exact ⟨ret_int (by rw [HB.out]; simp), hb0⟩
  | false =>
    have hK := clamp_any e.got 253402300799
    go_wp2_with fail
    refine (hK _).mono ?_
    rintro x w4 ⟨rfl, rfl⟩
    go_wp2
    go_ret
    exact ⟨ret_int (by rw [HB.out]; simp), hb0⟩
set_option maxHeartbeats 2000000 in
theorem age_any (e : Frs.Ent) (A : Option Addr) (n c : Nat) (B : Option Addr) (m k : Nat) (now : Int) (w : World) (hl : RdF w A n e.l) (hn : n ≤ 1048576) (hls : FlenS e.l) :
    Calls Tryz.prog 13 #[entV e A n c B m k, .int .i64 now] w fun x w' => x = .returned (.int .i64 (Frs.ageL e.l e.asked e.got now)) ∧ Below w.heap.size w w' := by
  have hbn := Frs.born_bd e.l e.got
  have hK := fun (v : Int) => clamp_any v 253402300799
  have hKb : ∀ v : Int, 0 ≤ Frs.clampL v 253402300799 ∧ Frs.clampL v 253402300799 ≤ 253402300799 := fun v => Frs.clamp_bd (by omega)
  have hgl := Frs.get_len hls (by rw [hl.1]; exact hn) Frs.ageN
  have hsb := Ctl.secL_ge (Frs.getL e.l Frs.ageN)
  have HR : Hid (Frs.ageL e.l e.asked e.got now = max (max 0 (Frs.clampL e.got 253402300799 - Frs.bornL e.l e.got)) (max 0 (Ctl.secL (Frs.getL e.l Frs.ageN)) + max 0 (Frs.clampL e.got 253402300799 - Frs.clampL e.asked 253402300799)) + max 0 (Frs.clampL now 253402300799 - Frs.clampL e.got 253402300799)) := Lib.hid rfl
  have hC := get_any A n c e.l Frs.AgeN
  have hBo := born_any e A n c B m k
  unfold entV at *
  have hb0 := alloc_below w (.cells #[.string (bs e.key), .string (bs e.vary), .int .i64 e.st, .string (bs e.rs), .int .i64 e.mi, .slice A n c, .slice B m k, .int .i64 e.asked, .int .i64 e.got] 27)
  have hr1 := heap_alloc_new w (.cells #[.string (bs e.key), .string (bs e.vary), .int .i64 e.st, .string (bs e.rs), .int .i64 e.mi, .slice A n c, .slice B m k, .int .i64 e.asked, .int .i64 e.got] 27)
  generalize Frs.ageL e.l e.asked e.got now = R at *
  go_enter Tryz.func13, Tryz.ntmps13
  go_upto_region 1 with fail
  generalize w.alloc (.cells #[.string (bs e.key), .string (bs e.vary), .int .i64 e.st, .string (bs e.rs), .int .i64 e.mi, .slice A n c, .slice B m k, .int .i64 e.asked, .int .i64 e.got] 27) = w2 at *
  replace hl := hl.step hb0
  have HC : Hid (∀ W, Below w2.heap.size w2 W → Calls Tryz.prog 37 #[.slice A n c, .string (bs Frs.AgeN)] W fun x w' => x = .returned (.tuple #[.string (bs (Frs.getL e.l Frs.ageN)), .bool (!(valuesL e.l Frs.AgeN).isEmpty)]) ∧ Below W.heap.size W w') := Lib.hid fun W hb => by
    have h := hC W (hl.step hb) hn hls (by decide)
    change Calls Tryz.prog 37 _ _ fun x w' => x = .returned (.tuple #[.string (bs (Frs.getL e.l Frs.AgeN)), .bool _]) ∧ _ at h
    rw [show Frs.getL e.l Frs.AgeN = Frs.getL e.l Frs.ageN from Frs.get_name rfl] at h
    exact h
  have HBo : Hid (∀ W, Below w2.heap.size w2 W → Calls Tryz.prog 29 #[.agg #[.string (bs e.key), .string (bs e.vary), .int .i64 e.st, .string (bs e.rs), .int .i64 e.mi, .slice A n c, .slice B m k, .int .i64 e.asked, .int .i64 e.got]] W fun x w' => x = .returned (.int .i64 (Frs.bornL e.l e.got)) ∧ Below W.heap.size W w') := Lib.hid fun W hb => hBo W (hl.step hb) hn hls
  have HS : Hid (∀ W, Calls Tryz.prog 38 #[.string (bs (Frs.getL e.l Frs.ageN))] W fun x w' => x = .returned (.int .i64 (Ctl.secL (Frs.getL e.l Frs.ageN))) ∧ Below W.heap.size W w') := Lib.hid fun W => sec_any _ W (by omega)
  clear hC hBo hl hls hgl
  generalize (!(valuesL e.l Frs.AgeN).isEmpty) = rr at *
  generalize Ctl.secL (Frs.getL e.l Frs.ageN) = sv at *
  generalize Frs.getL e.l Frs.ageN = s at *
  generalize Frs.bornL e.l e.got = bo at *
  have hka := hK e.asked
  have hkg := hK e.got
  have hkn := hK now
  have hba := hKb e.asked
  have hbg := hKb e.got
  have hbw := hKb now
  generalize Frs.clampL e.asked 253402300799 = ca at *
  generalize Frs.clampL e.got 253402300799 = cg at *
  generalize Frs.clampL now 253402300799 = cn at *
  have HKn := Lib.hid hkn
  clear hK hKb hkn
  go_cut [5, 6] (fun v u wc => v = .int .i64 ca ∧ u = .int .i64 cg ∧ Below w2.heap.size w2 wc)
  case first =>
    have HKa := Lib.hid hka
    have HKg := Lib.hid hkg
    clear hka hkg
    refine wp_region_detN (n := 8) (S := fun L W => Below w2.heap.size w2 W) (by kernel_rfl) rfl (below_drewN (Below.refl _ _) 1) ?_
    refine' DetS.takeL (i := 0) (v := _) rfl (by kernel_rfl) (by kernel_rfl) (by kernel_rfl) (YS.pure rfl ?sd1_0 ?rd1_0) ?nd1_0
    case rd1_0 => intro L W hS; obtain ⟨k0, k1, k2, k3, k4, k5, k6, k7, k8, -⟩ := row_facts9 (row_keep hr1 hS); go_simp; first | rfl | (rw [if_neg (by omega)] <;> rfl) | (rw [if_neg (by simp; omega)] <;> rfl) | (rw [if_neg (by simp)] <;> rfl)
    case sd1_0 => exact fun L W _ h => h
    simp only [Act.put, List.setIfInBounds_toArray, List.set_cons_zero, List.set_cons_succ]
    refine' DetS.takeL (i := 1) (v := _) rfl (by kernel_rfl) (by kernel_rfl) (by kernel_rfl) (YS.pure rfl ?sd1_1 ?rd1_1) ?nd1_1
    case rd1_1 => intro L W hS; obtain ⟨k0, k1, k2, k3, k4, k5, k6, k7, k8, -⟩ := row_facts9 (row_keep hr1 hS); go_simp; first | rfl | (rw [if_neg (by omega)] <;> rfl) | (rw [if_neg (by simp; omega)] <;> rfl) | (rw [if_neg (by simp)] <;> rfl)
    case sd1_1 => exact fun L W _ h => h
    simp only [Act.put, List.setIfInBounds_toArray, List.set_cons_zero, List.set_cons_succ]
    refine' DetS.takeL (i := 2) (v := _) rfl (by kernel_rfl) (by kernel_rfl) (by kernel_rfl) (YS.call (f := _) (args := _) rfl ?rd1_2 ?cd1_2) ?nd1_2
    case rd1_2 => intro W; go_simp; constructor <;> rfl
    case cd1_2 =>
      intro L W hL hS
      refine (HKa.out W).mono ?_
      rintro e9 w9 ⟨rfl, rfl⟩
      exact ⟨by rfl, hS⟩
    simp only [Act.put, List.setIfInBounds_toArray, List.set_cons_zero, List.set_cons_succ]
    refine' DetS.takeL (i := 3) (v := _) rfl (by kernel_rfl) (by kernel_rfl) (by kernel_rfl) (YS.pure rfl ?sd1_3 ?rd1_3) ?nd1_3
    case rd1_3 => intro L W hS; obtain ⟨k0, k1, k2, k3, k4, k5, k6, k7, k8, -⟩ := row_facts9 (row_keep hr1 hS); go_simp; first | rfl | (rw [if_neg (by omega)] <;> rfl) | (rw [if_neg (by simp; omega)] <;> rfl) | (rw [if_neg (by simp)] <;> rfl)
    case sd1_3 => exact fun L W _ h => h
    simp only [Act.put, List.setIfInBounds_toArray, List.set_cons_zero, List.set_cons_succ]
    refine' DetS.takeL (i := 4) (v := _) rfl (by kernel_rfl) (by kernel_rfl) (by kernel_rfl) (YS.pure rfl ?sd1_4 ?rd1_4) ?nd1_4
    case rd1_4 => intro L W hS; obtain ⟨k0, k1, k2, k3, k4, k5, k6, k7, k8, -⟩ := row_facts9 (row_keep hr1 hS); go_simp; first | rfl | (rw [if_neg (by omega)] <;> rfl) | (rw [if_neg (by simp; omega)] <;> rfl) | (rw [if_neg (by simp)] <;> rfl)
    case sd1_4 => exact fun L W _ h => h
    simp only [Act.put, List.setIfInBounds_toArray, List.set_cons_zero, List.set_cons_succ]
    refine' DetS.takeL (i := 5) (v := _) rfl (by kernel_rfl) (by kernel_rfl) (by kernel_rfl) (YS.call (f := _) (args := _) rfl ?rd1_5 ?cd1_5) ?nd1_5
    case rd1_5 => intro W; go_simp; constructor <;> rfl
    case cd1_5 =>
      intro L W hL hS
      refine (HKg.out W).mono ?_
      rintro e9 w9 ⟨rfl, rfl⟩
      exact ⟨by rfl, hS⟩
    simp only [Act.put, List.setIfInBounds_toArray, List.set_cons_zero, List.set_cons_succ]
    refine' DetS.takeL (i := 6) (v := _) rfl (by kernel_rfl) (by kernel_rfl) (by kernel_rfl) (YS.pure rfl ?sd1_6 ?rd1_6) ?nd1_6
    case rd1_6 => intro L W hS; obtain ⟨k0, k1, k2, k3, k4, k5, k6, k7, k8, -⟩ := row_facts9 (row_keep hr1 hS); go_simp; first | rfl | (rw [if_neg (by omega)] <;> rfl) | (rw [if_neg (by simp; omega)] <;> rfl) | (rw [if_neg (by simp)] <;> rfl)
    case sd1_6 => exact fun L W _ h => h
    simp only [Act.put, List.setIfInBounds_toArray, List.set_cons_zero, List.set_cons_succ]
    refine' DetS.takeL (i := 7) (v := _) rfl (by kernel_rfl) (by kernel_rfl) (by kernel_rfl) (YS.pure rfl ?sd1_7 ?rd1_7) ?nd1_7
    case rd1_7 => intro L W hS; obtain ⟨k0, k1, k2, k3, k4, k5, k6, k7, k8, -⟩ := row_facts9 (row_keep hr1 hS); go_simp; first | rfl | (rw [if_neg (by omega)] <;> rfl) | (rw [if_neg (by simp; omega)] <;> rfl) | (rw [if_neg (by simp)] <;> rfl)
    case sd1_7 => exact fun L W _ h => h
    simp only [Act.put, List.setIfInBounds_toArray, List.set_cons_zero, List.set_cons_succ]
    refine DetS.done (by kernel_rfl) (fun W hS => ?_) _
    have hbW := hS
    clear hS
    go_wp2
    go_meet
    case rel => exact ⟨rfl, rfl, hbW⟩
  case rest =>
    obtain ⟨rfl, rfl, hb3⟩ := hcut
    clear hka hkg
    replace hr1 := row_keep hr1 hb3
    replace hb0 := bnext hb0 hb3 hb0.size
    obtain ⟨a0, a1, a2, a3, a4, a5, a6, a7, a8, -⟩ := row_facts9 hr1
    have hC1 := HC.out _ hb3
    clear HC
    go_wp2_with fail
    refine hC1.mono ?_
    rintro x w4 ⟨rfl, hb4⟩
    clear a0 a1 a2 a3 a4 a5 a6 a7 a8 hC1
    replace hr1 := row_keep hr1 hb4
    replace hb0 := bnext hb0 hb4 hb0.size
    replace hb3 := bnext hb3 hb4 hb3.size
    obtain ⟨a0, a1, a2, a3, a4, a5, a6, a7, a8, -⟩ := row_facts9 hr1
    have hC1 := HBo.out _ hb3
    go_wp2_with fail
    refine hC1.mono ?_
    rintro x w5 ⟨rfl, hb5⟩
    clear a0 a1 a2 a3 a4 a5 a6 a7 a8 hC1 HBo
    replace hb0 := bnext hb0 hb5 hb0.size
    have q1 : IntKind.i64.wrap (cg - bo) = cg - bo := IntWalk.i64_in _ (by omega)
    have q2 : IntKind.i64.wrap (cg - ca) = cg - ca := IntWalk.i64_in _ (by omega)
    have q3 : IntKind.i64.wrap (cn - cg) = cn - cg := IntWalk.i64_in _ (by omega)
    have q4 : IntKind.i64.wrap (max 0 sv + max 0 (cg - ca)) = max 0 sv + max 0 (cg - ca) := IntWalk.i64_in _ (by omega)
    have q5 : IntKind.i64.wrap (max (max 0 (cg - bo)) (max 0 sv + max 0 (cg - ca)) + max 0 (cn - cg)) = max (max 0 (cg - bo)) (max 0 sv + max 0 (cg - ca)) + max 0 (cn - cg) := IntWalk.i64_in _ (by omega)
    have hC1 := HS.out
    clear HS
    go_wp2_with fail
    refine (hC1 _).mono ?_
    rintro x w6 ⟨rfl, hb6⟩
    replace hb0 := bnext hb0 hb6 hb0.size
    clear hC1 hb5 hb6 hb4 hb3
    have hC1 := HKn.out
    clear HKn
    go_wp2_with fail
    refine (hC1 _).mono ?_
    rintro x w7 ⟨rfl, rfl⟩
    clear hC1
    go_wp2
    go_ret
    exact ⟨ret_int (by have := HR.out; omega), hb0⟩
set_option maxHeartbeats 4000000 in
theorem life_any (e : Frs.Ent) (A : Option Addr) (n c : Nat) (B : Option Addr) (m k : Nat) (p : Frs.Pol) (w : World) (hM : MaxL w) (hl : RdF w A n e.l) (hn : n ≤ 1048576) (hls : FlenS e.l) :
    Calls Tryz.prog 11 #[entV e A n c B m k, polV p] w fun x w' => x = .returned (.int .i64 (Frs.lifeL e.l e.st e.got p)) ∧ Below w.heap.size w w' := by
  have hbn := Frs.born_bd e.l e.got
  have hmE := Frs.mom_bd e.l Ctl.expN
  have hmL := Frs.mom_bd e.l Frs.lmN
  have HGB : Hid (Frs.momV e.l Frs.lmN ≤ Frs.bornL e.l e.got → 0 ≤ (Frs.bornL e.l e.got - Frs.momV e.l Frs.lmN) * Frs.clampL p.pc 100 ∧ (Frs.bornL e.l e.got - Frs.momV e.l Frs.lmN) * Frs.clampL p.pc 100 ≤ 25340230079900) := Lib.hid fun h => by
    have := Frs.guessV_bd p.pc hbn.1 hbn.2 hmL.1 h
    exact ⟨this.1, this.2.1⟩
  have HR : Hid (Frs.lifeL e.l e.st e.got p = if 0 ≤ (Ctl.ctlL e.l).sMaxAge then (Ctl.ctlL e.l).sMaxAge else if 0 ≤ (Ctl.ctlL e.l).maxAge then (Ctl.ctlL e.l).maxAge
    else if Ctl.toldL e.l Ctl.expN = true then Frs.clampL (Frs.momV e.l Ctl.expN - Frs.bornL e.l e.got) 2147483648
    else if Ctl.negL e.st = true then Frs.clampL p.ng 2147483648
    else min (max (if Frs.momO e.l Frs.lmN = true ∧ Frs.momV e.l Frs.lmN ≤ Frs.bornL e.l e.got then ((Frs.bornL e.l e.got - Frs.momV e.l Frs.lmN) * Frs.clampL p.pc 100).tdiv 100 else 0) (Frs.clampL p.mn 2147483648)) (Frs.clampL p.mx 2147483648)) := Lib.hid rfl
  have hBo := born_any e A n c B m k
  have hCp := cparse_any A n c e.l
  have hCt := told_any A n c e.l Ctl.ExpN
  have hCe := moment_any A n c e.l Ctl.ExpN
  have hCm := moment_any A n c e.l Frs.LmN
  have hCn := negative_any e.st
  unfold entV polV ctV at *
  have hal1 := alloc_below w (.cells #[.string (bs e.key), .string (bs e.vary), .int .i64 e.st, .string (bs e.rs), .int .i64 e.mi, .slice A n c, .slice B m k, .int .i64 e.asked, .int .i64 e.got] 27)
  have hr1 := heap_alloc_new w (.cells #[.string (bs e.key), .string (bs e.vary), .int .i64 e.st, .string (bs e.rs), .int .i64 e.mi, .slice A n c, .slice B m k, .int .i64 e.asked, .int .i64 e.got] 27)
  have hal2 := alloc_below (w.alloc (.cells #[.string (bs e.key), .string (bs e.vary), .int .i64 e.st, .string (bs e.rs), .int .i64 e.mi, .slice A n c, .slice B m k, .int .i64 e.asked, .int .i64 e.got] 27)) (.cells #[.int .i64 p.mn, .int .i64 p.pc, .int .i64 p.mx, .int .i64 p.ng] 29)
  have hb0 := bnext hal1 hal2 hal1.size
  have hr2 := heap_alloc_new (w.alloc (.cells #[.string (bs e.key), .string (bs e.vary), .int .i64 e.st, .string (bs e.rs), .int .i64 e.mi, .slice A n c, .slice B m k, .int .i64 e.asked, .int .i64 e.got] 27)) (.cells #[.int .i64 p.mn, .int .i64 p.pc, .int .i64 p.mx, .int .i64 p.ng] 29)
  rw [show (w.alloc (.cells #[.string (bs e.key), .string (bs e.vary), .int .i64 e.st, .string (bs e.rs), .int .i64 e.mi, .slice A n c, .slice B m k, .int .i64 e.asked, .int .i64 e.got] 27)).heap.size = w.heap.size + 1 by simp] at hr2
  replace hr1 := row_keep hr1 hal2
  clear hal1 hal2
  generalize Frs.lifeL e.l e.st e.got p = R at *
  go_enter Tryz.func11, Tryz.ntmps11
  go_upto_region 1 with fail
  generalize (w.alloc (.cells #[.string (bs e.key), .string (bs e.vary), .int .i64 e.st, .string (bs e.rs), .int .i64 e.mi, .slice A n c, .slice B m k, .int .i64 e.asked, .int .i64 e.got] 27)).alloc (.cells #[.int .i64 p.mn, .int .i64 p.pc, .int .i64 p.mx, .int .i64 p.ng] 29) = w2 at *
  replace hl := hl.step hb0
  have hM2 := maxl_b hM hb0
  have hbz : Below w2.heap.size w2 w2 := Below.refl _ _
  have HBo : Hid (∀ W, Below w2.heap.size w2 W → Calls Tryz.prog 29 #[.agg #[.string (bs e.key), .string (bs e.vary), .int .i64 e.st, .string (bs e.rs), .int .i64 e.mi, .slice A n c, .slice B m k, .int .i64 e.asked, .int .i64 e.got]] W fun x w' => x = .returned (.int .i64 (Frs.bornL e.l e.got)) ∧ Below W.heap.size W w') := Lib.hid fun W hb => hBo W (hl.step hb) hn hls
  have HCp := hCp w2 hM2 hl hn hls
  have HCt : Hid (∀ W, Below w2.heap.size w2 W → Calls Tryz.prog 26 #[.slice A n c, .string (bs Ctl.ExpN)] W fun x w' => x = .returned (.bool (Ctl.toldL e.l Ctl.expN)) ∧ Below W.heap.size W w') := Lib.hid fun W hb => by
    have h := hCt W (hl.step hb) hn hls (by decide)
    rwa [show Ctl.toldL e.l Ctl.ExpN = Ctl.toldL e.l Ctl.expN from Ctl.told_name rfl] at h
  have HCe : Hid (∀ W, Below w2.heap.size w2 W → Calls Tryz.prog 27 #[.slice A n c, .string (bs Ctl.ExpN)] W fun x w' => x = .returned (.tuple #[.int .i64 (Frs.momV e.l Ctl.expN), .bool (Frs.momO e.l Ctl.expN)]) ∧ Below W.heap.size W w') := Lib.hid fun W hb => by
    have h := hCe W (hl.step hb) hn hls (by decide)
    rwa [show Frs.momV e.l Ctl.ExpN = Frs.momV e.l Ctl.expN from Frs.momV_name rfl, show Frs.momO e.l Ctl.ExpN = Frs.momO e.l Ctl.expN from Frs.momO_name rfl] at h
  have HCm : Hid (∀ W, Below w2.heap.size w2 W → Calls Tryz.prog 27 #[.slice A n c, .string (bs Frs.LmN)] W fun x w' => x = .returned (.tuple #[.int .i64 (Frs.momV e.l Frs.lmN), .bool (Frs.momO e.l Frs.lmN)]) ∧ Below W.heap.size W w') := Lib.hid fun W hb => by
    have h := hCm W (hl.step hb) hn hls (by decide)
    rwa [show Frs.momV e.l Frs.LmN = Frs.momV e.l Frs.lmN from Frs.momV_name rfl, show Frs.momO e.l Frs.LmN = Frs.momO e.l Frs.lmN from Frs.momO_name rfl] at h
  have HCn := Lib.hid hCn
  clear hBo hCp hCt hCe hCm hCn hl hls hM hM2
  generalize Ctl.ctlL e.l = dd at *
  generalize Ctl.toldL e.l Ctl.expN = te at *
  generalize Frs.momV e.l Ctl.expN = ve at *
  generalize Frs.momO e.l Ctl.expN = oe at *
  generalize Frs.momV e.l Frs.lmN = vm at *
  generalize Frs.momO e.l Frs.lmN = om at *
  generalize Frs.bornL e.l e.got = bo at *
  generalize Ctl.negL e.st = ng at *
  obtain ⟨a0, a1, a2, a3, a4, a5, a6, a7, a8, -⟩ := row_facts9 hr1
  go_wp2_with fail
  refine HCp.mono ?_
  rintro x w3 ⟨rfl, hb3⟩
  clear a0 a1 a2 a3 a4 a5 a6 a7 a8
  clear HCp
  go_upto_region 2 with fail
  have hal := alloc_below w3 (.cells #[.bool dd.noStore, .bool dd.noCache, .bool dd.priv, .bool dd.pub, .bool dd.must, .bool dd.only, .int .i64 dd.maxAge, .int .i64 dd.sMaxAge, .int .i64 dd.minFresh, .int .i64 dd.maxStale] 37)
  have hr3 := heap_alloc_new w3 (.cells #[.bool dd.noStore, .bool dd.noCache, .bool dd.priv, .bool dd.pub, .bool dd.must, .bool dd.only, .int .i64 dd.maxAge, .int .i64 dd.sMaxAge, .int .i64 dd.minFresh, .int .i64 dd.maxStale] 37)
  replace hr1 := row_keep (row_keep hr1 hb3) hal
  replace hr2 := row_keep (row_keep hr2 hb3) hal
  replace hb0 := bnext (bnext hb0 hb3 hb0.size) hal (bnext hb0 hb3 hb0.size).size
  replace hbz := bnext hb3 hal hb3.size
  generalize w3.alloc (.cells #[.bool dd.noStore, .bool dd.noCache, .bool dd.priv, .bool dd.pub, .bool dd.must, .bool dd.only, .int .i64 dd.maxAge, .int .i64 dd.sMaxAge, .int .i64 dd.minFresh, .int .i64 dd.maxStale] 37) = w4 at *
  generalize w3.heap.size = g3 at *
  clear hal hb3
  by_cases hs : 0 ≤ dd.sMaxAge
  · have HL : Hid (R = dd.sMaxAge) := Lib.hid (by rw [HR.out, if_pos hs])
    clear HR HBo HCt HCe HCm HCn HGB
    obtain ⟨d0, d1, d2, d3, d4, d5, d6, d7, d8, d9, -⟩ := row_facts10 hr3
    go_wp2
    go_ret
    exact ⟨ret_int HL.out.symm, hb0⟩
  have HR2 := Lib.hid (HR.out.trans (if_neg hs))
  clear HR
  by_cases hm : 0 ≤ dd.maxAge
  · have HL : Hid (R = dd.maxAge) := Lib.hid (by rw [HR2.out, if_pos hm])
    clear HR2 HBo HCt HCe HCm HCn HGB
    obtain ⟨d0, d1, d2, d3, d4, d5, d6, d7, d8, d9, -⟩ := row_facts10 hr3
    go_wp2
    go_ret
    exact ⟨ret_int HL.out.symm, hb0⟩
  have HR := Lib.hid (HR2.out.trans (if_neg hm))
  clear HR2
  obtain ⟨a0, a1, a2, a3, a4, a5, a6, a7, a8, -⟩ := row_facts9 hr1
  obtain ⟨d0, d1, d2, d3, d4, d5, d6, d7, d8, d9, -⟩ := row_facts10 hr3
  have hC := HCt.out _ hbz
  clear HCt
  go_wp2_with fail
  refine hC.mono ?_
  rintro x w5 ⟨rfl, hb5⟩
  clear hC
  clear a0 a1 a2 a3 a4 a5 a6 a7 a8
  clear d0 d1 d2 d3 d4 d5 d6 d7 d8 d9
  replace hr1 := row_keep hr1 hb5
  replace hr2 := row_keep hr2 hb5
  replace hr3 := row_keep hr3 hb5
  replace hb0 := bnext hb0 hb5 hb0.size
  replace hbz := bnext hbz hb5 hbz.size
  clear hb5
  obtain ⟨a0, a1, a2, a3, a4, a5, a6, a7, a8, -⟩ := row_facts9 hr1
  cases te with
  | true =>
    have HL : Hid (R = Frs.clampL (ve - bo) 2147483648) := Lib.hid (by rw [HR.out]; simp)
    clear HR HCm HCn HGB
    have q1 : IntKind.i64.wrap (ve - bo) = ve - bo := IntWalk.i64_in _ (by omega)
    have hC := HCe.out _ hbz
    clear HCe
    go_wp2_with fail
    refine hC.mono ?_
    rintro x w6 ⟨rfl, hb6⟩
    clear hC
    clear a0 a1 a2 a3 a4 a5 a6 a7 a8
    replace hr1 := row_keep hr1 hb6
    replace hr2 := row_keep hr2 hb6
    replace hr3 := row_keep hr3 hb6
    replace hb0 := bnext hb0 hb6 hb0.size
    replace hbz := bnext hbz hb6 hbz.size
    clear hb6
    obtain ⟨a0, a1, a2, a3, a4, a5, a6, a7, a8, -⟩ := row_facts9 hr1
    have hC := HBo.out _ hbz
    clear HBo
    go_wp2_with fail
    refine hC.mono ?_
    rintro x w7 ⟨rfl, hb7⟩
    clear hC
    clear a0 a1 a2 a3 a4 a5 a6 a7 a8
    replace hr1 := row_keep hr1 hb7
    replace hr2 := row_keep hr2 hb7
    replace hr3 := row_keep hr3 hb7
    replace hb0 := bnext hb0 hb7 hb0.size
    have hK := clamp_any (ve - bo) 2147483648
    go_wp2_with fail
    refine (hK _).mono ?_
    rintro x w8 ⟨rfl, rfl⟩
    go_wp2
    go_ret
    exact ⟨ret_int HL.out.symm, hb0⟩
  | false =>
    have HR2 := Lib.hid (HR.out.trans (if_neg (by decide)))
    clear HR HCe
    have hC := HCn.out
    clear HCn
    go_wp2_with fail
    refine (hC _).mono ?_
    rintro x w6 ⟨rfl, rfl⟩
    clear hC
    cases ng with
    | true =>
      have HL : Hid (R = Frs.clampL p.ng 2147483648) := Lib.hid (by rw [HR2.out]; simp)
      clear HR2 HCm HBo HGB
      obtain ⟨p0, p1, p2, p3, -⟩ := row_facts4 hr2
      have hK := clamp_any p.ng 2147483648
      go_wp2_with fail
      refine (hK _).mono ?_
      rintro x w8 ⟨rfl, rfl⟩
      go_wp2
      go_ret
      exact ⟨ret_int HL.out.symm, hb0⟩
    | false =>
      have HR := Lib.hid (HR2.out.trans (if_neg (by decide)))
      clear HR2
      have hC := HCm.out _ hbz
      clear HCm
      go_wp2_with fail
      refine hC.mono ?_
      rintro x w7 ⟨rfl, hb7⟩
      clear hC
      clear a0 a1 a2 a3 a4 a5 a6 a7 a8
      replace hr1 := row_keep hr1 hb7
      replace hr2 := row_keep hr2 hb7
      replace hr3 := row_keep hr3 hb7
      replace hb0 := bnext hb0 hb7 hb0.size
      replace hbz := bnext hbz hb7 hbz.size
      clear hb7
      have hK := fun (v hi : Int) => clamp_any v hi
      have hK1 := fun W => clamp_any p.mn 2147483648 W
      have hK2 := fun W => clamp_any p.mx 2147483648 W
      have HK3 := Lib.hid (fun W => clamp_any p.pc 100 W)
      have hpb := Frs.clamp_bd (v := p.pc) (hi := 100) (by omega)
      generalize Frs.clampL p.mn 2147483648 = cmn at *
      generalize Frs.clampL p.mx 2147483648 = cmx at *
      generalize Frs.clampL p.pc 100 = cpc at *
      have HK1 := Lib.hid hK1
      have HK2 := Lib.hid hK2
      clear hK hK1 hK2
      cases om with
      | false =>
        have HL : Hid (R = min (max 0 cmn) cmx) := Lib.hid (by rw [HR.out]; simp)
        clear HR HK3 HBo HGB
        go_upto_region 15 with fail
        refine wp_region_detN (n := 10) (S := fun L W => Below w7.heap.size w7 W) (by kernel_rfl) rfl (below_drewN (Below.refl _ _) 1) ?_
        refine' DetS.takeL (i := 0) (v := _) rfl (by kernel_rfl) (by kernel_rfl) (by kernel_rfl) (YS.pure rfl ?sd15w7_0 ?rd15w7_0) ?nd15w7_0
        case rd15w7_0 => intro L W hS; obtain ⟨k0, k1, k2, k3, k4, k5, k6, k7, k8, -⟩ := row_facts9 (row_keep hr1 hS); obtain ⟨m0, m1, m2, m3, -⟩ := row_facts4 (row_keep hr2 hS); go_simp; first | rfl | (rw [if_neg (by omega)] <;> rfl) | (rw [if_neg (by simp; omega)] <;> rfl) | (rw [if_neg (by simp)] <;> rfl)
        case sd15w7_0 => exact fun L W _ h => h
        simp only [Act.put, List.setIfInBounds_toArray, List.set_cons_zero, List.set_cons_succ]
        refine' DetS.takeL (i := 1) (v := _) rfl (by kernel_rfl) (by kernel_rfl) (by kernel_rfl) (YS.pure rfl ?sd15w7_1 ?rd15w7_1) ?nd15w7_1
        case rd15w7_1 => intro L W hS; obtain ⟨k0, k1, k2, k3, k4, k5, k6, k7, k8, -⟩ := row_facts9 (row_keep hr1 hS); obtain ⟨m0, m1, m2, m3, -⟩ := row_facts4 (row_keep hr2 hS); go_simp; first | rfl | (rw [if_neg (by omega)] <;> rfl) | (rw [if_neg (by simp; omega)] <;> rfl) | (rw [if_neg (by simp)] <;> rfl)
        case sd15w7_1 => exact fun L W _ h => h
        simp only [Act.put, List.setIfInBounds_toArray, List.set_cons_zero, List.set_cons_succ]
        refine' DetS.takeL (i := 2) (v := _) rfl (by kernel_rfl) (by kernel_rfl) (by kernel_rfl) (YS.pure rfl ?sd15w7_2 ?rd15w7_2) ?nd15w7_2
        case rd15w7_2 => intro L W hS; obtain ⟨k0, k1, k2, k3, k4, k5, k6, k7, k8, -⟩ := row_facts9 (row_keep hr1 hS); obtain ⟨m0, m1, m2, m3, -⟩ := row_facts4 (row_keep hr2 hS); go_simp; first | rfl | (rw [if_neg (by omega)] <;> rfl) | (rw [if_neg (by simp; omega)] <;> rfl) | (rw [if_neg (by simp)] <;> rfl)
        case sd15w7_2 => exact fun L W _ h => h
        simp only [Act.put, List.setIfInBounds_toArray, List.set_cons_zero, List.set_cons_succ]
        refine' DetS.takeL (i := 3) (v := _) rfl (by kernel_rfl) (by kernel_rfl) (by kernel_rfl) (YS.call (f := _) (args := _) rfl ?rd15w7_3 ?cd15w7_3) ?nd15w7_3
        case rd15w7_3 => intro W; go_simp; constructor <;> rfl
        case cd15w7_3 =>
          intro L W hL hS
          refine (HK1.out W).mono ?_
          rintro e9 w9 ⟨rfl, rfl⟩
          exact ⟨by rfl, hS⟩
        simp only [Act.put, List.setIfInBounds_toArray, List.set_cons_zero, List.set_cons_succ]
        refine' DetS.takeL (i := 4) (v := _) rfl (by kernel_rfl) (by kernel_rfl) (by kernel_rfl) (YS.pure rfl ?sd15w7_4 ?rd15w7_4) ?nd15w7_4
        case rd15w7_4 => intro L W hS; obtain ⟨k0, k1, k2, k3, k4, k5, k6, k7, k8, -⟩ := row_facts9 (row_keep hr1 hS); obtain ⟨m0, m1, m2, m3, -⟩ := row_facts4 (row_keep hr2 hS); go_simp; first | rfl | (rw [if_neg (by omega)] <;> rfl) | (rw [if_neg (by simp; omega)] <;> rfl) | (rw [if_neg (by simp)] <;> rfl)
        case sd15w7_4 => exact fun L W _ h => h
        simp only [Act.put, List.setIfInBounds_toArray, List.set_cons_zero, List.set_cons_succ]
        refine' DetS.takeL (i := 5) (v := _) rfl (by kernel_rfl) (by kernel_rfl) (by kernel_rfl) (YS.pure rfl ?sd15w7_5 ?rd15w7_5) ?nd15w7_5
        case rd15w7_5 => intro L W hS; obtain ⟨k0, k1, k2, k3, k4, k5, k6, k7, k8, -⟩ := row_facts9 (row_keep hr1 hS); obtain ⟨m0, m1, m2, m3, -⟩ := row_facts4 (row_keep hr2 hS); go_simp; first | rfl | (rw [if_neg (by omega)] <;> rfl) | (rw [if_neg (by simp; omega)] <;> rfl) | (rw [if_neg (by simp)] <;> rfl)
        case sd15w7_5 => exact fun L W _ h => h
        simp only [Act.put, List.setIfInBounds_toArray, List.set_cons_zero, List.set_cons_succ]
        refine' DetS.takeL (i := 6) (v := _) rfl (by kernel_rfl) (by kernel_rfl) (by kernel_rfl) (YS.pure rfl ?sd15w7_6 ?rd15w7_6) ?nd15w7_6
        case rd15w7_6 => intro L W hS; obtain ⟨k0, k1, k2, k3, k4, k5, k6, k7, k8, -⟩ := row_facts9 (row_keep hr1 hS); obtain ⟨m0, m1, m2, m3, -⟩ := row_facts4 (row_keep hr2 hS); go_simp; first | rfl | (rw [if_neg (by omega)] <;> rfl) | (rw [if_neg (by simp; omega)] <;> rfl) | (rw [if_neg (by simp)] <;> rfl)
        case sd15w7_6 => exact fun L W _ h => h
        simp only [Act.put, List.setIfInBounds_toArray, List.set_cons_zero, List.set_cons_succ]
        refine' DetS.takeL (i := 7) (v := _) rfl (by kernel_rfl) (by kernel_rfl) (by kernel_rfl) (YS.call (f := _) (args := _) rfl ?rd15w7_7 ?cd15w7_7) ?nd15w7_7
        case rd15w7_7 => intro W; go_simp; constructor <;> rfl
        case cd15w7_7 =>
          intro L W hL hS
          refine (HK2.out W).mono ?_
          rintro e9 w9 ⟨rfl, rfl⟩
          exact ⟨by rfl, hS⟩
        simp only [Act.put, List.setIfInBounds_toArray, List.set_cons_zero, List.set_cons_succ]
        refine' DetS.takeL (i := 8) (v := _) rfl (by kernel_rfl) (by kernel_rfl) (by kernel_rfl) (YS.pure rfl ?sd15w7_8 ?rd15w7_8) ?nd15w7_8
        case rd15w7_8 => intro L W hS; obtain ⟨k0, k1, k2, k3, k4, k5, k6, k7, k8, -⟩ := row_facts9 (row_keep hr1 hS); obtain ⟨m0, m1, m2, m3, -⟩ := row_facts4 (row_keep hr2 hS); go_simp; first | rfl | (rw [if_neg (by omega)] <;> rfl) | (rw [if_neg (by simp; omega)] <;> rfl) | (rw [if_neg (by simp)] <;> rfl)
        case sd15w7_8 => exact fun L W _ h => h
        simp only [Act.put, List.setIfInBounds_toArray, List.set_cons_zero, List.set_cons_succ]
        refine' DetS.takeL (i := 9) (v := _) rfl (by kernel_rfl) (by kernel_rfl) (by kernel_rfl) (YS.pure rfl ?sd15w7_9 ?rd15w7_9) ?nd15w7_9
        case rd15w7_9 => intro L W hS; obtain ⟨k0, k1, k2, k3, k4, k5, k6, k7, k8, -⟩ := row_facts9 (row_keep hr1 hS); obtain ⟨m0, m1, m2, m3, -⟩ := row_facts4 (row_keep hr2 hS); go_simp; first | rfl | (rw [if_neg (by omega)] <;> rfl) | (rw [if_neg (by simp; omega)] <;> rfl) | (rw [if_neg (by simp)] <;> rfl)
        case sd15w7_9 => exact fun L W _ h => h
        simp only [Act.put, List.setIfInBounds_toArray, List.set_cons_zero, List.set_cons_succ]
        refine DetS.done (by kernel_rfl) (fun W hS => ?_) _
        have hbW := bnext hb0 hS hb0.size
        clear hS
        go_wp2
        go_ret
        exact ⟨ret_int HL.out.symm, hbW⟩
      | true =>
        obtain ⟨a0, a1, a2, a3, a4, a5, a6, a7, a8, -⟩ := row_facts9 hr1
        have hC := HBo.out _ hbz
        go_wp2_with fail
        refine hC.mono ?_
        rintro x w8 ⟨rfl, hb8⟩
        clear hC
        clear a0 a1 a2 a3 a4 a5 a6 a7 a8
        replace hr1 := row_keep hr1 hb8
        replace hr2 := row_keep hr2 hb8
        replace hr3 := row_keep hr3 hb8
        replace hb0 := bnext hb0 hb8 hb0.size
        replace hbz := bnext hbz hb8 hbz.size
        clear hb8
        by_cases hvb : vm ≤ bo
        · have HG2 := HGB.out hvb
          have HL : Hid (R = min (max (((bo - vm) * cpc).tdiv 100) cmn) cmx) := Lib.hid (by rw [HR.out, if_pos (by simpa using hvb)])
          have hq0 : 0 ≤ ((bo - vm) * cpc).tdiv 100 ∧ ((bo - vm) * cpc).tdiv 100 ≤ 25340230079900 := by rw [Int.tdiv_eq_ediv_of_nonneg HG2.1]; omega
          have q1 : IntKind.i64.wrap (bo - vm) = bo - vm := IntWalk.i64_in _ (by omega)
          have q2 : IntKind.i64.wrap ((bo - vm) * cpc) = (bo - vm) * cpc := IntWalk.i64_in _ (by omega)
          have q3 : IntKind.i64.wrap (((bo - vm) * cpc).tdiv 100) = ((bo - vm) * cpc).tdiv 100 := IntWalk.i64_in _ (by omega)
          clear HR HGB
          go_upto_region 14 with fail
          go_cut [8] (fun v wc => v = .int .i64 (((bo - vm) * cpc).tdiv 100) ∧ Below w8.heap.size w8 wc)
          case first =>
            refine wp_region_detN (n := 10) (S := fun L W => Below w8.heap.size w8 W) (by kernel_rfl) rfl (below_drewN (Below.refl _ _) 1) ?_
            refine' DetS.takeL (i := 0) (v := _) rfl (by kernel_rfl) (by kernel_rfl) (by kernel_rfl) (YS.pure rfl ?sd14_0 ?rd14_0) ?nd14_0
            case rd14_0 => intro L W hS; obtain ⟨k0, k1, k2, k3, k4, k5, k6, k7, k8, -⟩ := row_facts9 (row_keep hr1 hS); obtain ⟨m0, m1, m2, m3, -⟩ := row_facts4 (row_keep hr2 hS); go_simp; first | rfl | (rw [if_neg (by omega)] <;> rfl) | (rw [if_neg (by simp; omega)] <;> rfl) | (rw [if_neg (by simp)] <;> rfl)
            case sd14_0 => exact fun L W _ h => h
            simp only [Act.put, List.setIfInBounds_toArray, List.set_cons_zero, List.set_cons_succ]
            refine' DetS.takeL (i := 1) (v := _) rfl (by kernel_rfl) (by kernel_rfl) (by kernel_rfl) (YS.call (f := _) (args := _) rfl ?rd14_1 ?cd14_1) ?nd14_1
            case rd14_1 => intro W; go_simp; constructor <;> rfl
            case cd14_1 =>
              intro L W hL hS
              refine (HBo.out W (bnext hbz hS hbz.size)).mono ?_
              rintro e9 w9 ⟨rfl, hb9⟩
              exact ⟨by rfl, bnext hS hb9 hS.size⟩
            simp only [Act.put, List.setIfInBounds_toArray, List.set_cons_zero, List.set_cons_succ]
            refine' DetS.takeL (i := 2) (v := _) rfl (by kernel_rfl) (by kernel_rfl) (by kernel_rfl) (YS.pure rfl ?sd14_2 ?rd14_2) ?nd14_2
            case rd14_2 => intro L W hS; obtain ⟨k0, k1, k2, k3, k4, k5, k6, k7, k8, -⟩ := row_facts9 (row_keep hr1 hS); obtain ⟨m0, m1, m2, m3, -⟩ := row_facts4 (row_keep hr2 hS); go_simp; first | rfl | (rw [if_neg (by omega)] <;> rfl) | (rw [if_neg (by simp; omega)] <;> rfl) | (rw [if_neg (by simp)] <;> rfl)
            case sd14_2 => exact fun L W _ h => h
            simp only [Act.put, List.setIfInBounds_toArray, List.set_cons_zero, List.set_cons_succ]
            refine' DetS.takeL (i := 3) (v := _) rfl (by kernel_rfl) (by kernel_rfl) (by kernel_rfl) (YS.pure rfl ?sd14_3 ?rd14_3) ?nd14_3
            case rd14_3 => intro L W hS; obtain ⟨k0, k1, k2, k3, k4, k5, k6, k7, k8, -⟩ := row_facts9 (row_keep hr1 hS); obtain ⟨m0, m1, m2, m3, -⟩ := row_facts4 (row_keep hr2 hS); go_simp; first | rfl | (rw [if_neg (by omega)] <;> rfl) | (rw [if_neg (by simp; omega)] <;> rfl) | (rw [if_neg (by simp)] <;> rfl)
            case sd14_3 => exact fun L W _ h => h
            simp only [Act.put, List.setIfInBounds_toArray, List.set_cons_zero, List.set_cons_succ]
            refine' DetS.takeL (i := 4) (v := _) rfl (by kernel_rfl) (by kernel_rfl) (by kernel_rfl) (YS.pure rfl ?sd14_4 ?rd14_4) ?nd14_4
            case rd14_4 => intro L W hS; obtain ⟨k0, k1, k2, k3, k4, k5, k6, k7, k8, -⟩ := row_facts9 (row_keep hr1 hS); obtain ⟨m0, m1, m2, m3, -⟩ := row_facts4 (row_keep hr2 hS); go_simp; first | rfl | (rw [if_neg (by omega)] <;> rfl) | (rw [if_neg (by simp; omega)] <;> rfl) | (rw [if_neg (by simp)] <;> rfl)
            case sd14_4 => exact fun L W _ h => h
            simp only [Act.put, List.setIfInBounds_toArray, List.set_cons_zero, List.set_cons_succ]
            refine' DetS.takeL (i := 5) (v := _) rfl (by kernel_rfl) (by kernel_rfl) (by kernel_rfl) (YS.pure rfl ?sd14_5 ?rd14_5) ?nd14_5
            case rd14_5 => intro L W hS; obtain ⟨k0, k1, k2, k3, k4, k5, k6, k7, k8, -⟩ := row_facts9 (row_keep hr1 hS); obtain ⟨m0, m1, m2, m3, -⟩ := row_facts4 (row_keep hr2 hS); go_simp; first | rfl | (rw [if_neg (by omega)] <;> rfl) | (rw [if_neg (by simp; omega)] <;> rfl) | (rw [if_neg (by simp)] <;> rfl)
            case sd14_5 => exact fun L W _ h => h
            simp only [Act.put, List.setIfInBounds_toArray, List.set_cons_zero, List.set_cons_succ]
            refine' DetS.takeL (i := 6) (v := _) rfl (by kernel_rfl) (by kernel_rfl) (by kernel_rfl) (YS.call (f := _) (args := _) rfl ?rd14_6 ?cd14_6) ?nd14_6
            case rd14_6 => intro W; go_simp; constructor <;> rfl
            case cd14_6 =>
              intro L W hL hS
              refine (HK3.out W).mono ?_
              rintro e9 w9 ⟨rfl, rfl⟩
              exact ⟨by rfl, hS⟩
            simp only [Act.put, List.setIfInBounds_toArray, List.set_cons_zero, List.set_cons_succ]
            refine' DetS.takeL (i := 7) (v := _) rfl (by kernel_rfl) (by kernel_rfl) (by kernel_rfl) (YS.pure rfl ?sd14_7 ?rd14_7) ?nd14_7
            case rd14_7 => intro L W hS; obtain ⟨k0, k1, k2, k3, k4, k5, k6, k7, k8, -⟩ := row_facts9 (row_keep hr1 hS); obtain ⟨m0, m1, m2, m3, -⟩ := row_facts4 (row_keep hr2 hS); go_simp; first | rfl | (rw [if_neg (by omega)] <;> rfl) | (rw [if_neg (by simp; omega)] <;> rfl) | (rw [if_neg (by simp)] <;> rfl)
            case sd14_7 => exact fun L W _ h => h
            simp only [Act.put, List.setIfInBounds_toArray, List.set_cons_zero, List.set_cons_succ]
            refine' DetS.takeL (i := 8) (v := _) rfl (by kernel_rfl) (by kernel_rfl) (by kernel_rfl) (YS.pure rfl ?sd14_8 ?rd14_8) ?nd14_8
            case rd14_8 => intro L W hS; obtain ⟨k0, k1, k2, k3, k4, k5, k6, k7, k8, -⟩ := row_facts9 (row_keep hr1 hS); obtain ⟨m0, m1, m2, m3, -⟩ := row_facts4 (row_keep hr2 hS); go_simp; first | rfl | (rw [if_neg (by omega)] <;> rfl) | (rw [if_neg (by simp; omega)] <;> rfl) | (rw [if_neg (by simp)] <;> rfl)
            case sd14_8 => exact fun L W _ h => h
            simp only [Act.put, List.setIfInBounds_toArray, List.set_cons_zero, List.set_cons_succ]
            refine' DetS.takeL (i := 9) (v := _) rfl (by kernel_rfl) (by kernel_rfl) (by kernel_rfl) (YS.pure rfl ?sd14_9 ?rd14_9) ?nd14_9
            case rd14_9 => intro L W hS; obtain ⟨k0, k1, k2, k3, k4, k5, k6, k7, k8, -⟩ := row_facts9 (row_keep hr1 hS); obtain ⟨m0, m1, m2, m3, -⟩ := row_facts4 (row_keep hr2 hS); go_simp; first | rfl | (rw [if_neg (by omega)] <;> rfl) | (rw [if_neg (by simp; omega)] <;> rfl) | (rw [if_neg (by simp)] <;> rfl)
            case sd14_9 => exact fun L W _ h => h
            simp only [Act.put, List.setIfInBounds_toArray, List.set_cons_zero, List.set_cons_succ]
            refine DetS.done (by kernel_rfl) (fun W hS => ?_) _
            have hbW := hS
            clear hS
            go_wp2
            go_meet
            case rel => exact ⟨rfl, hbW⟩
          case rest =>
            obtain ⟨rfl, hb9⟩ := hcut
            clear HBo HK3
            replace hr1 := row_keep hr1 hb9
            replace hr2 := row_keep hr2 hb9
            replace hr3 := row_keep hr3 hb9
            replace hb0 := bnext hb0 hb9 hb0.size
            go_upto_region 15 with fail
            obtain ⟨wr, hwr⟩ : ∃ wr, wr = wc := ⟨_, rfl⟩
            subst hwr
            refine wp_region_detN (n := 10) (S := fun L W => Below wr.heap.size wr W) (by kernel_rfl) rfl (below_drewN (Below.refl _ _) 1) ?_
            refine' DetS.takeL (i := 0) (v := _) rfl (by kernel_rfl) (by kernel_rfl) (by kernel_rfl) (YS.pure rfl ?sd15wr_0 ?rd15wr_0) ?nd15wr_0
            case rd15wr_0 => intro L W hS; obtain ⟨k0, k1, k2, k3, k4, k5, k6, k7, k8, -⟩ := row_facts9 (row_keep hr1 hS); obtain ⟨m0, m1, m2, m3, -⟩ := row_facts4 (row_keep hr2 hS); go_simp; first | rfl | (rw [if_neg (by omega)] <;> rfl) | (rw [if_neg (by simp; omega)] <;> rfl) | (rw [if_neg (by simp)] <;> rfl)
            case sd15wr_0 => exact fun L W _ h => h
            simp only [Act.put, List.setIfInBounds_toArray, List.set_cons_zero, List.set_cons_succ]
            refine' DetS.takeL (i := 1) (v := _) rfl (by kernel_rfl) (by kernel_rfl) (by kernel_rfl) (YS.pure rfl ?sd15wr_1 ?rd15wr_1) ?nd15wr_1
            case rd15wr_1 => intro L W hS; obtain ⟨k0, k1, k2, k3, k4, k5, k6, k7, k8, -⟩ := row_facts9 (row_keep hr1 hS); obtain ⟨m0, m1, m2, m3, -⟩ := row_facts4 (row_keep hr2 hS); go_simp; first | rfl | (rw [if_neg (by omega)] <;> rfl) | (rw [if_neg (by simp; omega)] <;> rfl) | (rw [if_neg (by simp)] <;> rfl)
            case sd15wr_1 => exact fun L W _ h => h
            simp only [Act.put, List.setIfInBounds_toArray, List.set_cons_zero, List.set_cons_succ]
            refine' DetS.takeL (i := 2) (v := _) rfl (by kernel_rfl) (by kernel_rfl) (by kernel_rfl) (YS.pure rfl ?sd15wr_2 ?rd15wr_2) ?nd15wr_2
            case rd15wr_2 => intro L W hS; obtain ⟨k0, k1, k2, k3, k4, k5, k6, k7, k8, -⟩ := row_facts9 (row_keep hr1 hS); obtain ⟨m0, m1, m2, m3, -⟩ := row_facts4 (row_keep hr2 hS); go_simp; first | rfl | (rw [if_neg (by omega)] <;> rfl) | (rw [if_neg (by simp; omega)] <;> rfl) | (rw [if_neg (by simp)] <;> rfl)
            case sd15wr_2 => exact fun L W _ h => h
            simp only [Act.put, List.setIfInBounds_toArray, List.set_cons_zero, List.set_cons_succ]
            refine' DetS.takeL (i := 3) (v := _) rfl (by kernel_rfl) (by kernel_rfl) (by kernel_rfl) (YS.call (f := _) (args := _) rfl ?rd15wr_3 ?cd15wr_3) ?nd15wr_3
            case rd15wr_3 => intro W; go_simp; constructor <;> rfl
            case cd15wr_3 =>
              intro L W hL hS
              refine (HK1.out W).mono ?_
              rintro e9 w9 ⟨rfl, rfl⟩
              exact ⟨by rfl, hS⟩
            simp only [Act.put, List.setIfInBounds_toArray, List.set_cons_zero, List.set_cons_succ]
            refine' DetS.takeL (i := 4) (v := _) rfl (by kernel_rfl) (by kernel_rfl) (by kernel_rfl) (YS.pure rfl ?sd15wr_4 ?rd15wr_4) ?nd15wr_4
            case rd15wr_4 => intro L W hS; obtain ⟨k0, k1, k2, k3, k4, k5, k6, k7, k8, -⟩ := row_facts9 (row_keep hr1 hS); obtain ⟨m0, m1, m2, m3, -⟩ := row_facts4 (row_keep hr2 hS); go_simp; first | rfl | (rw [if_neg (by omega)] <;> rfl) | (rw [if_neg (by simp; omega)] <;> rfl) | (rw [if_neg (by simp)] <;> rfl)
            case sd15wr_4 => exact fun L W _ h => h
            simp only [Act.put, List.setIfInBounds_toArray, List.set_cons_zero, List.set_cons_succ]
            refine' DetS.takeL (i := 5) (v := _) rfl (by kernel_rfl) (by kernel_rfl) (by kernel_rfl) (YS.pure rfl ?sd15wr_5 ?rd15wr_5) ?nd15wr_5
            case rd15wr_5 => intro L W hS; obtain ⟨k0, k1, k2, k3, k4, k5, k6, k7, k8, -⟩ := row_facts9 (row_keep hr1 hS); obtain ⟨m0, m1, m2, m3, -⟩ := row_facts4 (row_keep hr2 hS); go_simp; first | rfl | (rw [if_neg (by omega)] <;> rfl) | (rw [if_neg (by simp; omega)] <;> rfl) | (rw [if_neg (by simp)] <;> rfl)
            case sd15wr_5 => exact fun L W _ h => h
            simp only [Act.put, List.setIfInBounds_toArray, List.set_cons_zero, List.set_cons_succ]
            refine' DetS.takeL (i := 6) (v := _) rfl (by kernel_rfl) (by kernel_rfl) (by kernel_rfl) (YS.pure rfl ?sd15wr_6 ?rd15wr_6) ?nd15wr_6
            case rd15wr_6 => intro L W hS; obtain ⟨k0, k1, k2, k3, k4, k5, k6, k7, k8, -⟩ := row_facts9 (row_keep hr1 hS); obtain ⟨m0, m1, m2, m3, -⟩ := row_facts4 (row_keep hr2 hS); go_simp; first | rfl | (rw [if_neg (by omega)] <;> rfl) | (rw [if_neg (by simp; omega)] <;> rfl) | (rw [if_neg (by simp)] <;> rfl)
            case sd15wr_6 => exact fun L W _ h => h
            simp only [Act.put, List.setIfInBounds_toArray, List.set_cons_zero, List.set_cons_succ]
            refine' DetS.takeL (i := 7) (v := _) rfl (by kernel_rfl) (by kernel_rfl) (by kernel_rfl) (YS.call (f := _) (args := _) rfl ?rd15wr_7 ?cd15wr_7) ?nd15wr_7
            case rd15wr_7 => intro W; go_simp; constructor <;> rfl
            case cd15wr_7 =>
              intro L W hL hS
              refine (HK2.out W).mono ?_
              rintro e9 w9 ⟨rfl, rfl⟩
              exact ⟨by rfl, hS⟩
            simp only [Act.put, List.setIfInBounds_toArray, List.set_cons_zero, List.set_cons_succ]
            refine' DetS.takeL (i := 8) (v := _) rfl (by kernel_rfl) (by kernel_rfl) (by kernel_rfl) (YS.pure rfl ?sd15wr_8 ?rd15wr_8) ?nd15wr_8
            case rd15wr_8 => intro L W hS; obtain ⟨k0, k1, k2, k3, k4, k5, k6, k7, k8, -⟩ := row_facts9 (row_keep hr1 hS); obtain ⟨m0, m1, m2, m3, -⟩ := row_facts4 (row_keep hr2 hS); go_simp; first | rfl | (rw [if_neg (by omega)] <;> rfl) | (rw [if_neg (by simp; omega)] <;> rfl) | (rw [if_neg (by simp)] <;> rfl)
            case sd15wr_8 => exact fun L W _ h => h
            simp only [Act.put, List.setIfInBounds_toArray, List.set_cons_zero, List.set_cons_succ]
            refine' DetS.takeL (i := 9) (v := _) rfl (by kernel_rfl) (by kernel_rfl) (by kernel_rfl) (YS.pure rfl ?sd15wr_9 ?rd15wr_9) ?nd15wr_9
            case rd15wr_9 => intro L W hS; obtain ⟨k0, k1, k2, k3, k4, k5, k6, k7, k8, -⟩ := row_facts9 (row_keep hr1 hS); obtain ⟨m0, m1, m2, m3, -⟩ := row_facts4 (row_keep hr2 hS); go_simp; first | rfl | (rw [if_neg (by omega)] <;> rfl) | (rw [if_neg (by simp; omega)] <;> rfl) | (rw [if_neg (by simp)] <;> rfl)
            case sd15wr_9 => exact fun L W _ h => h
            simp only [Act.put, List.setIfInBounds_toArray, List.set_cons_zero, List.set_cons_succ]
            refine DetS.done (by kernel_rfl) (fun W hS => ?_) _
            have hbW := bnext hb0 hS hb0.size
            clear hS
            go_wp2
            go_ret
            exact ⟨ret_int HL.out.symm, hbW⟩
        · have HL : Hid (R = min (max 0 cmn) cmx) := Lib.hid (by rw [HR.out, if_neg (fun h => hvb h.2)])
          clear HR HK3 HBo HGB
          go_upto_region 15 with fail
          refine wp_region_detN (n := 10) (S := fun L W => Below w8.heap.size w8 W) (by kernel_rfl) rfl (below_drewN (Below.refl _ _) 1) ?_
          refine' DetS.takeL (i := 0) (v := _) rfl (by kernel_rfl) (by kernel_rfl) (by kernel_rfl) (YS.pure rfl ?sd15w8_0 ?rd15w8_0) ?nd15w8_0
          case rd15w8_0 => intro L W hS; obtain ⟨k0, k1, k2, k3, k4, k5, k6, k7, k8, -⟩ := row_facts9 (row_keep hr1 hS); obtain ⟨m0, m1, m2, m3, -⟩ := row_facts4 (row_keep hr2 hS); go_simp; first | rfl | (rw [if_neg (by omega)] <;> rfl) | (rw [if_neg (by simp; omega)] <;> rfl) | (rw [if_neg (by simp)] <;> rfl)
          case sd15w8_0 => exact fun L W _ h => h
          simp only [Act.put, List.setIfInBounds_toArray, List.set_cons_zero, List.set_cons_succ]
          refine' DetS.takeL (i := 1) (v := _) rfl (by kernel_rfl) (by kernel_rfl) (by kernel_rfl) (YS.pure rfl ?sd15w8_1 ?rd15w8_1) ?nd15w8_1
          case rd15w8_1 => intro L W hS; obtain ⟨k0, k1, k2, k3, k4, k5, k6, k7, k8, -⟩ := row_facts9 (row_keep hr1 hS); obtain ⟨m0, m1, m2, m3, -⟩ := row_facts4 (row_keep hr2 hS); go_simp; first | rfl | (rw [if_neg (by omega)] <;> rfl) | (rw [if_neg (by simp; omega)] <;> rfl) | (rw [if_neg (by simp)] <;> rfl)
          case sd15w8_1 => exact fun L W _ h => h
          simp only [Act.put, List.setIfInBounds_toArray, List.set_cons_zero, List.set_cons_succ]
          refine' DetS.takeL (i := 2) (v := _) rfl (by kernel_rfl) (by kernel_rfl) (by kernel_rfl) (YS.pure rfl ?sd15w8_2 ?rd15w8_2) ?nd15w8_2
          case rd15w8_2 => intro L W hS; obtain ⟨k0, k1, k2, k3, k4, k5, k6, k7, k8, -⟩ := row_facts9 (row_keep hr1 hS); obtain ⟨m0, m1, m2, m3, -⟩ := row_facts4 (row_keep hr2 hS); go_simp; first | rfl | (rw [if_neg (by omega)] <;> rfl) | (rw [if_neg (by simp; omega)] <;> rfl) | (rw [if_neg (by simp)] <;> rfl)
          case sd15w8_2 => exact fun L W _ h => h
          simp only [Act.put, List.setIfInBounds_toArray, List.set_cons_zero, List.set_cons_succ]
          refine' DetS.takeL (i := 3) (v := _) rfl (by kernel_rfl) (by kernel_rfl) (by kernel_rfl) (YS.call (f := _) (args := _) rfl ?rd15w8_3 ?cd15w8_3) ?nd15w8_3
          case rd15w8_3 => intro W; go_simp; constructor <;> rfl
          case cd15w8_3 =>
            intro L W hL hS
            refine (HK1.out W).mono ?_
            rintro e9 w9 ⟨rfl, rfl⟩
            exact ⟨by rfl, hS⟩
          simp only [Act.put, List.setIfInBounds_toArray, List.set_cons_zero, List.set_cons_succ]
          refine' DetS.takeL (i := 4) (v := _) rfl (by kernel_rfl) (by kernel_rfl) (by kernel_rfl) (YS.pure rfl ?sd15w8_4 ?rd15w8_4) ?nd15w8_4
          case rd15w8_4 => intro L W hS; obtain ⟨k0, k1, k2, k3, k4, k5, k6, k7, k8, -⟩ := row_facts9 (row_keep hr1 hS); obtain ⟨m0, m1, m2, m3, -⟩ := row_facts4 (row_keep hr2 hS); go_simp; first | rfl | (rw [if_neg (by omega)] <;> rfl) | (rw [if_neg (by simp; omega)] <;> rfl) | (rw [if_neg (by simp)] <;> rfl)
          case sd15w8_4 => exact fun L W _ h => h
          simp only [Act.put, List.setIfInBounds_toArray, List.set_cons_zero, List.set_cons_succ]
          refine' DetS.takeL (i := 5) (v := _) rfl (by kernel_rfl) (by kernel_rfl) (by kernel_rfl) (YS.pure rfl ?sd15w8_5 ?rd15w8_5) ?nd15w8_5
          case rd15w8_5 => intro L W hS; obtain ⟨k0, k1, k2, k3, k4, k5, k6, k7, k8, -⟩ := row_facts9 (row_keep hr1 hS); obtain ⟨m0, m1, m2, m3, -⟩ := row_facts4 (row_keep hr2 hS); go_simp; first | rfl | (rw [if_neg (by omega)] <;> rfl) | (rw [if_neg (by simp; omega)] <;> rfl) | (rw [if_neg (by simp)] <;> rfl)
          case sd15w8_5 => exact fun L W _ h => h
          simp only [Act.put, List.setIfInBounds_toArray, List.set_cons_zero, List.set_cons_succ]
          refine' DetS.takeL (i := 6) (v := _) rfl (by kernel_rfl) (by kernel_rfl) (by kernel_rfl) (YS.pure rfl ?sd15w8_6 ?rd15w8_6) ?nd15w8_6
          case rd15w8_6 => intro L W hS; obtain ⟨k0, k1, k2, k3, k4, k5, k6, k7, k8, -⟩ := row_facts9 (row_keep hr1 hS); obtain ⟨m0, m1, m2, m3, -⟩ := row_facts4 (row_keep hr2 hS); go_simp; first | rfl | (rw [if_neg (by omega)] <;> rfl) | (rw [if_neg (by simp; omega)] <;> rfl) | (rw [if_neg (by simp)] <;> rfl)
          case sd15w8_6 => exact fun L W _ h => h
          simp only [Act.put, List.setIfInBounds_toArray, List.set_cons_zero, List.set_cons_succ]
          refine' DetS.takeL (i := 7) (v := _) rfl (by kernel_rfl) (by kernel_rfl) (by kernel_rfl) (YS.call (f := _) (args := _) rfl ?rd15w8_7 ?cd15w8_7) ?nd15w8_7
          case rd15w8_7 => intro W; go_simp; constructor <;> rfl
          case cd15w8_7 =>
            intro L W hL hS
            refine (HK2.out W).mono ?_
            rintro e9 w9 ⟨rfl, rfl⟩
            exact ⟨by rfl, hS⟩
          simp only [Act.put, List.setIfInBounds_toArray, List.set_cons_zero, List.set_cons_succ]
          refine' DetS.takeL (i := 8) (v := _) rfl (by kernel_rfl) (by kernel_rfl) (by kernel_rfl) (YS.pure rfl ?sd15w8_8 ?rd15w8_8) ?nd15w8_8
          case rd15w8_8 => intro L W hS; obtain ⟨k0, k1, k2, k3, k4, k5, k6, k7, k8, -⟩ := row_facts9 (row_keep hr1 hS); obtain ⟨m0, m1, m2, m3, -⟩ := row_facts4 (row_keep hr2 hS); go_simp; first | rfl | (rw [if_neg (by omega)] <;> rfl) | (rw [if_neg (by simp; omega)] <;> rfl) | (rw [if_neg (by simp)] <;> rfl)
          case sd15w8_8 => exact fun L W _ h => h
          simp only [Act.put, List.setIfInBounds_toArray, List.set_cons_zero, List.set_cons_succ]
          refine' DetS.takeL (i := 9) (v := _) rfl (by kernel_rfl) (by kernel_rfl) (by kernel_rfl) (YS.pure rfl ?sd15w8_9 ?rd15w8_9) ?nd15w8_9
          case rd15w8_9 => intro L W hS; obtain ⟨k0, k1, k2, k3, k4, k5, k6, k7, k8, -⟩ := row_facts9 (row_keep hr1 hS); obtain ⟨m0, m1, m2, m3, -⟩ := row_facts4 (row_keep hr2 hS); go_simp; first | rfl | (rw [if_neg (by omega)] <;> rfl) | (rw [if_neg (by simp; omega)] <;> rfl) | (rw [if_neg (by simp)] <;> rfl)
          case sd15w8_9 => exact fun L W _ h => h
          simp only [Act.put, List.setIfInBounds_toArray, List.set_cons_zero, List.set_cons_succ]
          refine DetS.done (by kernel_rfl) (fun W hS => ?_) _
          have hbW := bnext hb0 hS hb0.size
          clear hS
          go_wp2
          go_ret
          exact ⟨ret_int HL.out.symm, hbW⟩
end Go.Proofs.YtfhkgbimnfjfhaaGreatDoor
