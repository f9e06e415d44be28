/- Joined texts: Ages and lifetimes, the reference's: cut, second, date, Age, Lifetime. The conditions stand in each line. -/
import Derived.Test.YtfhkgbimnfjfhaaGreatDoorM17
import Derived.Test.YtfhkgbimnfjfhaaGreatDoorM24
import Derived.Test.YtfhkgbimnfjfhaaGreatDoorM25
import Derived.Test.YtfhkgbimnfjfhaaGreatDoorM31
import Derived.Test.YtfhkgbimnfjfhaaGreatDoorM34
import Derived.BigQuiet
import Derived.Deep.QuietTactic
set_option linter.unusedVariables false
set_option linter.unusedSimpArgs false
namespace Go.Proofs.YtfhkgbimnfjfhaaGreatDoor
open Go.RowKit

set_option maxRecDepth 100000
set_option maxHeartbeats 400000 in
theorem cutR_any (v hi : Int) (hh : 0 ≤ hi) (w : World) : Calls Tryz.prog 33 #[.int .i64 v, .int .i64 hi] w fun x w' => x = .returned (.int .i64 (Frs.clampL v hi)) ∧ w = w' := by
  have HC := Lib.hid (Frs.cut_eq (v := v) hh)
  generalize Frs.clampL v hi = R at *
  by_cases h1 : v < 0
  · have HL : Hid (R = 0) := Lib.hid (by rw [HC.out, if_pos h1])
    go_enter Tryz.func33, Tryz.ntmps33
    go_wp2
    go_ret
    exact ⟨ret_int HL.out.symm, rfl⟩
  · by_cases h2 : hi < v
    · have HL : Hid (R = hi) := Lib.hid (by rw [HC.out, if_neg h1, if_pos h2])
      go_enter Tryz.func33, Tryz.ntmps33
      go_wp2
      go_ret
      exact ⟨ret_int HL.out.symm, rfl⟩
    · have HL : Hid (R = v) := Lib.hid (by rw [HC.out, if_neg h1, if_neg h2])
      go_enter Tryz.func33, Tryz.ntmps33
      go_wp2
      go_ret
      exact ⟨ret_int HL.out.symm, rfl⟩
set_option maxHeartbeats 400000 in
theorem secondR_any (A : Option Addr) (n c : Nat) (l : List Fld) (name : List UInt8) (w : World) (hl : RdF w A n l) (hn : n ≤ 1048576) (hls : FlenS l) (hnm : name.length ≤ 1048576) :
    Calls Tryz.prog 34 #[.slice A n c, .string (bs name)] w fun x w' => x = .returned (.int .i64 (Frs.secdL l name)) ∧ Below w.heap.size w w' := by
  have hC := getR_any A n c l name w hl hn hls hnm
  have hgl := Frs.get_len hls (by rw [hl.1]; exact hn) name
  have HV : Hid (Frs.secdL l name = if (Dt.dparse (Frs.getL l name)).2 = 0 then (Dt.dparse (Frs.getL l name)).1 else -1) := Lib.hid (by
    unfold Frs.secdL Frs.momO Frs.momV
    by_cases h : (Dt.dparse (Frs.getL l name)).2 = 0
    · rw [if_pos h, if_pos (by simp [h])]
    · rw [if_neg h, if_neg (by simp [h])])
  change Calls Tryz.prog 39 _ _ fun x w' => x = .returned (.tuple #[.string (bs (Frs.getL l name)), .bool _]) ∧ _ at hC
  generalize (!(valuesL l name).isEmpty) = r at *
  generalize Frs.secdL l name = R at *
  generalize Frs.getL l name = s at *
  have HP := fun W => rparse_any s W (by omega)
  rw [Dt.parse_eq] at HP
  generalize Dt.dparse s = d at *
  by_cases hd : d.2 = 0
  · have HL : Hid (R = d.1) := Lib.hid (by rw [HV.out, if_pos hd])
    have qd : (d.2 != 0) = false := by simp [hd]
    clear hd HV
    go_enter Tryz.func34, Tryz.ntmps34
    go_wp2_with fail
    refine hC.mono ?_
    rintro x w1 ⟨rfl, hb1⟩
    clear hC
    go_wp2_with fail
    refine (HP _).mono ?_
    rintro x w2 ⟨rfl, hb2⟩
    clear HP
    go_wp2
    go_ret
    exact ⟨ret_int HL.out.symm, bnext hb1 hb2 hb1.size⟩
  · have HL : Hid (R = -1) := Lib.hid (by rw [HV.out, if_neg hd])
    have qd : (d.2 != 0) = true := by simpa using hd
    clear hd HV
    go_enter Tryz.func34, Tryz.ntmps34
    go_wp2_with fail
    refine hC.mono ?_
    rintro x w1 ⟨rfl, hb1⟩
    clear hC
    go_wp2_with fail
    refine (HP _).mono ?_
    rintro x w2 ⟨rfl, hb2⟩
    clear HP
    go_wp2
    go_ret
    exact ⟨ret_int HL.out.symm, bnext hb1 hb2 hb1.size⟩
set_option maxHeartbeats 400000 in
theorem dateR_any (e : Frs.Ent) (A : Option Addr) (n c : Nat) (B : Option Addr) (m k : Nat) (w : World) (hl : RdF w A n e.l) (hn : n ≤ 1048576) (hls : FlenS e.l) :
    Calls Tryz.prog 35 #[entV e A n c B m k] w fun x w' => x = .returned (.int .i64 (Frs.bornL e.l e.got)) ∧ Below w.heap.size w w' := by
  unfold entV
  have hb0 := alloc_below w (.cells #[.string (bs e.key), .string (bs e.vary), .int .i64 e.st, .string (bs e.rs), .int .i64 e.mi, .slice A n c, .slice B m k, .int .i64 e.asked, .int .i64 e.got] 27)
  have hr1 := heap_alloc_new w (.cells #[.string (bs e.key), .string (bs e.vary), .int .i64 e.st, .string (bs e.rs), .int .i64 e.mi, .slice A n c, .slice B m k, .int .i64 e.asked, .int .i64 e.got] 27)
  have HB := Lib.hid (Frs.born_secd e.l e.got)
  generalize Frs.bornL e.l e.got = R at *
  go_enter Tryz.func35, Tryz.ntmps35
  go_upto_region 1 with fail
  generalize w.alloc (.cells #[.string (bs e.key), .string (bs e.vary), .int .i64 e.st, .string (bs e.rs), .int .i64 e.mi, .slice A n c, .slice B m k, .int .i64 e.asked, .int .i64 e.got] 27) = w2 at *
  have hC := secondR_any A n c e.l Frs.dateN w2 (hl.step hb0) hn hls (by decide)
  generalize Frs.secdL e.l Frs.dateN = sv at *
  obtain ⟨a0, a1, a2, a3, a4, a5, a6, a7, a8, -⟩ := row_facts9 hr1
  go_wp2_with fail
  refine hC.mono ?_
  rintro x w3 ⟨rfl, hb3⟩
  clear a0 a1 a2 a3 a4 a5 a6 a7 a8 hC
  replace hr1 := row_keep hr1 hb3
  replace hb0 := bnext hb0 hb3 hb0.size
  obtain ⟨a0, a1, a2, a3, a4, a5, a6, a7, a8, -⟩ := row_facts9 hr1
  by_cases hs : sv < 0
  · have HL := Lib.hid (HB.out.trans (if_pos hs))
    have hK := cutR_any e.got 253402300799 (by omega)
    go_wp2_with fail
    refine (hK _).mono ?_
    rintro x w4 ⟨rfl, rfl⟩
    go_wp2
    go_ret
    exact ⟨ret_int HL.out.symm, hb0⟩
  · have HL := Lib.hid (HB.out.trans (if_neg hs))
    go_wp2
    go_ret
    exact ⟨ret_int HL.out.symm, hb0⟩
set_option maxHeartbeats 4000000 in
theorem ageR_any (e : Frs.Ent) (A : Option Addr) (n c : Nat) (B : Option Addr) (m k : Nat) (now : Int) (w : World) (hl : RdF w A n e.l) (hn : n ≤ 1048576) (hls : FlenS e.l) :
    Calls Tryz.prog 14 #[entV e A n c B m k, .int .i64 now] w fun x w' => x = .returned (.int .i64 (Frs.ageL e.l e.asked e.got now)) ∧ Below w.heap.size w w' := by
  have hbn := Frs.born_bd e.l e.got
  have hK := fun (v : Int) => cutR_any v 253402300799 (by omega)
  have hKb : ∀ v : Int, 0 ≤ Frs.clampL v 253402300799 ∧ Frs.clampL v 253402300799 ≤ 253402300799 := fun v => Frs.clamp_bd (by omega)
  have hgl := Frs.get_len hls (by rw [hl.1]; exact hn) Frs.ageN
  have hsb := Ctl.secL_ge (Frs.getL e.l Frs.ageN)
  have hbg := hKb e.got
  have hbk := hKb e.asked
  have hbw := hKb now
  have HM : Hid (∀ v : Int, v ≤ 253402300799 → max 0 v = Frs.clampL v 253402300799) := Lib.hid fun v h => by unfold Frs.clampL; omega
  have HR0 : Frs.ageL e.l e.asked e.got now = max (Frs.clampL (Frs.clampL e.got 253402300799 - Frs.bornL e.l e.got) 253402300799) (Frs.clampL (Ctl.secL (Frs.getL e.l Frs.ageN)) 253402300799 + Frs.clampL (Frs.clampL e.got 253402300799 - Frs.clampL e.asked 253402300799) 253402300799) + Frs.clampL (Frs.clampL now 253402300799 - Frs.clampL e.got 253402300799) 253402300799 := by
    rw [← HM.out (Frs.clampL e.got 253402300799 - Frs.bornL e.l e.got) (by omega), ← HM.out (Ctl.secL (Frs.getL e.l Frs.ageN)) (by omega), ← HM.out (Frs.clampL e.got 253402300799 - Frs.clampL e.asked 253402300799) (by omega), ← HM.out (Frs.clampL now 253402300799 - Frs.clampL e.got 253402300799) (by omega)]
    rfl
  have HR := Lib.hid HR0
  have hC := getR_any A n c e.l Frs.ageN
  have hBo := dateR_any e A n c B m k
  unfold entV at *
  have hb0 := alloc_below w (.cells #[.string (bs e.key), .string (bs e.vary), .int .i64 e.st, .string (bs e.rs), .int .i64 e.mi, .slice A n c, .slice B m k, .int .i64 e.asked, .int .i64 e.got] 27)
  have hr1 := heap_alloc_new w (.cells #[.string (bs e.key), .string (bs e.vary), .int .i64 e.st, .string (bs e.rs), .int .i64 e.mi, .slice A n c, .slice B m k, .int .i64 e.asked, .int .i64 e.got] 27)
  clear HR0 HM
  generalize Frs.ageL e.l e.asked e.got now = R at *
  go_enter Tryz.func14, Tryz.ntmps14
  go_upto_region 1 with fail
  generalize w.alloc (.cells #[.string (bs e.key), .string (bs e.vary), .int .i64 e.st, .string (bs e.rs), .int .i64 e.mi, .slice A n c, .slice B m k, .int .i64 e.asked, .int .i64 e.got] 27) = w2 at *
  replace hl := hl.step hb0
  have HC : Hid (∀ W, Below w2.heap.size w2 W → Calls Tryz.prog 39 #[.slice A n c, .string (bs Frs.ageN)] W fun x w' => x = .returned (.tuple #[.string (bs (Frs.getL e.l Frs.ageN)), .bool (!(valuesL e.l Frs.ageN).isEmpty)]) ∧ Below W.heap.size W w') := Lib.hid fun W hb => hC W (hl.step hb) hn hls (by decide)
  have HBo : Hid (∀ W, Below w2.heap.size w2 W → Calls Tryz.prog 35 #[.agg #[.string (bs e.key), .string (bs e.vary), .int .i64 e.st, .string (bs e.rs), .int .i64 e.mi, .slice A n c, .slice B m k, .int .i64 e.asked, .int .i64 e.got]] W fun x w' => x = .returned (.int .i64 (Frs.bornL e.l e.got)) ∧ Below W.heap.size W w') := Lib.hid fun W hb => hBo W (hl.step hb) hn hls
  have HS : Hid (∀ W, Calls Tryz.prog 40 #[.string (bs (Frs.getL e.l Frs.ageN))] W fun x w' => x = .returned (.int .i64 (Ctl.secL (Frs.getL e.l Frs.ageN))) ∧ W = w') := Lib.hid fun W => rsec_any _ W (by omega)
  clear hC hBo hl hls hgl
  generalize (!(valuesL e.l Frs.ageN).isEmpty) = rr at *
  generalize Ctl.secL (Frs.getL e.l Frs.ageN) = sv at *
  generalize Frs.getL e.l Frs.ageN = s at *
  generalize Frs.bornL e.l e.got = bo at *
  have HKg := Lib.hid (hK e.got)
  have HKa := Lib.hid (hK e.asked)
  have HKn := Lib.hid (hK now)
  have HKs := Lib.hid (hK sv)
  have hbs := hKb sv
  generalize Frs.clampL e.got 253402300799 = cg at *
  generalize Frs.clampL e.asked 253402300799 = ca at *
  generalize Frs.clampL now 253402300799 = cn at *
  generalize Frs.clampL sv 253402300799 = cs at *
  have HK2 := Lib.hid (hK (cg - bo))
  have HK3 := Lib.hid (hK (cg - ca))
  have HK4 := Lib.hid (hK (cn - cg))
  have hb2 := hKb (cg - bo)
  have hb3 := hKb (cg - ca)
  have hb4 := hKb (cn - cg)
  have q1 : IntKind.i64.wrap (cg - bo) = cg - bo := IntWalk.i64_in _ (by omega)
  have q2 : IntKind.i64.wrap (cg - ca) = cg - ca := IntWalk.i64_in _ (by omega)
  have q3 : IntKind.i64.wrap (cn - cg) = cn - cg := IntWalk.i64_in _ (by omega)
  generalize Frs.clampL (cg - bo) 253402300799 = x2 at *
  generalize Frs.clampL (cg - ca) 253402300799 = x3 at *
  generalize Frs.clampL (cn - cg) 253402300799 = x4 at *
  clear hK hKb
  have q4 : IntKind.i64.wrap (cs + x3) = cs + x3 := IntWalk.i64_in _ (by omega)
  have q5 : IntKind.i64.wrap (cs + x3 + x4) = cs + x3 + x4 := IntWalk.i64_in _ (by omega)
  have q6 : IntKind.i64.wrap (x2 + x4) = x2 + x4 := IntWalk.i64_in _ (by omega)
  have hbz : Below w2.heap.size w2 w2 := Below.refl _ _
  obtain ⟨a0, a1, a2, a3, a4, a5, a6, a7, a8, -⟩ := row_facts9 hr1
  have hC := HKg.out
  clear HKg
  go_wp2_with fail
  refine (hC _).mono ?_
  rintro x w3 ⟨rfl, rfl⟩
  clear hC
  have hC := HBo.out _ hbz
  clear HBo
  go_wp2_with fail
  refine hC.mono ?_
  rintro x w3 ⟨rfl, hb5⟩
  clear hC
  clear a0 a1 a2 a3 a4 a5 a6 a7 a8
  replace hr1 := row_keep hr1 hb5
  replace hb0 := bnext hb0 hb5 hb0.size
  replace hbz := bnext hbz hb5 hbz.size
  clear hb5
  obtain ⟨a0, a1, a2, a3, a4, a5, a6, a7, a8, -⟩ := row_facts9 hr1
  have hC := HK2.out
  clear HK2
  go_wp2_with fail
  refine (hC _).mono ?_
  rintro x w4 ⟨rfl, rfl⟩
  clear hC
  have hC := HC.out _ hbz
  clear HC
  go_wp2_with fail
  refine hC.mono ?_
  rintro x w5 ⟨rfl, hb5⟩
  clear hC
  clear a0 a1 a2 a3 a4 a5 a6 a7 a8
  replace hr1 := row_keep hr1 hb5
  replace hb0 := bnext hb0 hb5 hb0.size
  clear hb5 hbz
  go_upto_region 4 with fail
  go_cut [9] (fun v wc => v = .int .i64 (cs + x3) ∧ Below w5.heap.size w5 wc)
  case first =>
    refine wp_region_detN (n := 11) (S := fun L W => Below w5.heap.size w5 W) (by kernel_rfl) rfl (below_drewN (Below.refl _ _) 1) ?_
    refine' DetS.takeL (i := 0) (v := _) rfl (by kernel_rfl) (by kernel_rfl) (by kernel_rfl) (YS.pure rfl ?sd4_0 ?rd4_0) ?nd4_0
    case rd4_0 => intro L W hS; obtain ⟨k0, k1, k2, k3, k4, k5, k6, k7, k8, -⟩ := row_facts9 (row_keep hr1 hS); go_simp; first | rfl | (rw [if_neg (by omega)] <;> rfl) | (rw [if_neg (by simp; omega)] <;> rfl) | (rw [if_neg (by simp)] <;> rfl)
    case sd4_0 => exact fun L W _ h => h
    simp only [Act.put, List.setIfInBounds_toArray, List.set_cons_zero, List.set_cons_succ]
    refine' DetS.takeL (i := 1) (v := _) rfl (by kernel_rfl) (by kernel_rfl) (by kernel_rfl) (YS.call (f := _) (args := _) rfl ?rd4_1 ?cd4_1) ?nd4_1
    case rd4_1 => intro W; go_simp; constructor <;> rfl
    case cd4_1 =>
      intro L W hL hS
      refine (HS.out W).mono ?_
      rintro e9 w9 ⟨rfl, rfl⟩
      exact ⟨by rfl, hS⟩
    simp only [Act.put, List.setIfInBounds_toArray, List.set_cons_zero, List.set_cons_succ]
    refine' DetS.takeL (i := 2) (v := _) rfl (by kernel_rfl) (by kernel_rfl) (by kernel_rfl) (YS.call (f := _) (args := _) rfl ?rd4_2 ?cd4_2) ?nd4_2
    case rd4_2 => intro W; go_simp; constructor <;> rfl
    case cd4_2 =>
      intro L W hL hS
      refine (HKs.out W).mono ?_
      rintro e9 w9 ⟨rfl, rfl⟩
      exact ⟨by rfl, hS⟩
    simp only [Act.put, List.setIfInBounds_toArray, List.set_cons_zero, List.set_cons_succ]
    refine' DetS.takeL (i := 3) (v := _) rfl (by kernel_rfl) (by kernel_rfl) (by kernel_rfl) (YS.pure rfl ?sd4_3 ?rd4_3) ?nd4_3
    case rd4_3 => intro L W hS; obtain ⟨k0, k1, k2, k3, k4, k5, k6, k7, k8, -⟩ := row_facts9 (row_keep hr1 hS); go_simp; first | rfl | (rw [if_neg (by omega)] <;> rfl) | (rw [if_neg (by simp; omega)] <;> rfl) | (rw [if_neg (by simp)] <;> rfl)
    case sd4_3 => exact fun L W _ h => h
    simp only [Act.put, List.setIfInBounds_toArray, List.set_cons_zero, List.set_cons_succ]
    refine' DetS.takeL (i := 4) (v := _) rfl (by kernel_rfl) (by kernel_rfl) (by kernel_rfl) (YS.pure rfl ?sd4_4 ?rd4_4) ?nd4_4
    case rd4_4 => intro L W hS; obtain ⟨k0, k1, k2, k3, k4, k5, k6, k7, k8, -⟩ := row_facts9 (row_keep hr1 hS); go_simp; first | rfl | (rw [if_neg (by omega)] <;> rfl) | (rw [if_neg (by simp; omega)] <;> rfl) | (rw [if_neg (by simp)] <;> rfl)
    case sd4_4 => exact fun L W _ h => h
    simp only [Act.put, List.setIfInBounds_toArray, List.set_cons_zero, List.set_cons_succ]
    refine' DetS.takeL (i := 5) (v := _) rfl (by kernel_rfl) (by kernel_rfl) (by kernel_rfl) (YS.pure rfl ?sd4_5 ?rd4_5) ?nd4_5
    case rd4_5 => intro L W hS; obtain ⟨k0, k1, k2, k3, k4, k5, k6, k7, k8, -⟩ := row_facts9 (row_keep hr1 hS); go_simp; first | rfl | (rw [if_neg (by omega)] <;> rfl) | (rw [if_neg (by simp; omega)] <;> rfl) | (rw [if_neg (by simp)] <;> rfl)
    case sd4_5 => exact fun L W _ h => h
    simp only [Act.put, List.setIfInBounds_toArray, List.set_cons_zero, List.set_cons_succ]
    refine' DetS.takeL (i := 6) (v := _) rfl (by kernel_rfl) (by kernel_rfl) (by kernel_rfl) (YS.call (f := _) (args := _) rfl ?rd4_6 ?cd4_6) ?nd4_6
    case rd4_6 => intro W; go_simp; constructor <;> rfl
    case cd4_6 =>
      intro L W hL hS
      refine (HKa.out W).mono ?_
      rintro e9 w9 ⟨rfl, rfl⟩
      exact ⟨by rfl, hS⟩
    simp only [Act.put, List.setIfInBounds_toArray, List.set_cons_zero, List.set_cons_succ]
    refine' DetS.takeL (i := 7) (v := _) rfl (by kernel_rfl) (by kernel_rfl) (by kernel_rfl) (YS.pure rfl ?sd4_7 ?rd4_7) ?nd4_7
    case rd4_7 => intro L W hS; obtain ⟨k0, k1, k2, k3, k4, k5, k6, k7, k8, -⟩ := row_facts9 (row_keep hr1 hS); go_simp; first | rfl | (rw [if_neg (by omega)] <;> rfl) | (rw [if_neg (by simp; omega)] <;> rfl) | (rw [if_neg (by simp)] <;> rfl)
    case sd4_7 => exact fun L W _ h => h
    simp only [Act.put, List.setIfInBounds_toArray, List.set_cons_zero, List.set_cons_succ]
    refine' DetS.takeL (i := 8) (v := _) rfl (by kernel_rfl) (by kernel_rfl) (by kernel_rfl) (YS.call (f := _) (args := _) rfl ?rd4_8 ?cd4_8) ?nd4_8
    case rd4_8 => intro W; go_simp; constructor <;> rfl
    case cd4_8 =>
      intro L W hL hS
      refine (HK3.out W).mono ?_
      rintro e9 w9 ⟨rfl, rfl⟩
      exact ⟨by rfl, hS⟩
    simp only [Act.put, List.setIfInBounds_toArray, List.set_cons_zero, List.set_cons_succ]
    refine' DetS.takeL (i := 9) (v := _) rfl (by kernel_rfl) (by kernel_rfl) (by kernel_rfl) (YS.pure rfl ?sd4_9 ?rd4_9) ?nd4_9
    case rd4_9 => intro L W hS; obtain ⟨k0, k1, k2, k3, k4, k5, k6, k7, k8, -⟩ := row_facts9 (row_keep hr1 hS); go_simp; first | rfl | (rw [if_neg (by omega)] <;> rfl) | (rw [if_neg (by simp; omega)] <;> rfl) | (rw [if_neg (by simp)] <;> rfl)
    case sd4_9 => exact fun L W _ h => h
    simp only [Act.put, List.setIfInBounds_toArray, List.set_cons_zero, List.set_cons_succ]
    refine' DetS.takeL (i := 10) (v := _) rfl (by kernel_rfl) (by kernel_rfl) (by kernel_rfl) (YS.pure rfl ?sd4_10 ?rd4_10) ?nd4_10
    case rd4_10 => intro L W hS; obtain ⟨k0, k1, k2, k3, k4, k5, k6, k7, k8, -⟩ := row_facts9 (row_keep hr1 hS); go_simp; first | rfl | (rw [if_neg (by omega)] <;> rfl) | (rw [if_neg (by simp; omega)] <;> rfl) | (rw [if_neg (by simp)] <;> rfl)
    case sd4_10 => exact fun L W _ h => h
    simp only [Act.put, List.setIfInBounds_toArray, List.set_cons_zero, List.set_cons_succ]
    refine DetS.done (by kernel_rfl) (fun W hS => ?_) _
    have hbW := hS
    clear hS
    go_wp2
    go_meet
    case rel => exact ⟨rfl, hbW⟩
  case rest =>
    obtain ⟨rfl, hb6⟩ := hcut
    clear HS HKs HKa HK3
    replace hr1 := row_keep hr1 hb6
    replace hb0 := bnext hb0 hb6 hb0.size
    by_cases hx : x2 < cs + x3
    · have HL : Hid (R = cs + x3 + x4) := Lib.hid (by have := HR.out; omega)
      clear HR
      have hC := HKn.out
      clear HKn
      go_wp2_with fail
      refine (hC _).mono ?_
      rintro x w8 ⟨rfl, rfl⟩
      clear hC
      have hC := HK4.out
      clear HK4
      go_wp2_with fail
      refine (hC _).mono ?_
      rintro x w9 ⟨rfl, rfl⟩
      clear hC
      go_wp2
      go_ret
      exact ⟨ret_int HL.out.symm, hb0⟩
    · have HL : Hid (R = x2 + x4) := Lib.hid (by have := HR.out; omega)
      clear HR
      have hC := HKn.out
      clear HKn
      go_wp2_with fail
      refine (hC _).mono ?_
      rintro x w8 ⟨rfl, rfl⟩
      clear hC
      have hC := HK4.out
      clear HK4
      go_wp2_with fail
      refine (hC _).mono ?_
      rintro x w9 ⟨rfl, rfl⟩
      clear hC
      go_wp2
      go_ret
      exact ⟨ret_int HL.out.symm, hb0⟩
set_option maxHeartbeats 8000000 in
theorem lifeR_any (e : Frs.Ent) (A : Option Addr) (n c : Nat) (B : Option Addr) (m k : Nat) (p : Frs.Pol) (w : World) (hl : RdF w A n e.l) (hn : n ≤ 1048576) (hls : FlenS e.l) :
    Calls Tryz.prog 12 #[entV e A n c B m k, polV p] w fun x w' => x = .returned (.int .i64 (Frs.lifeL e.l e.st e.got p)) ∧ Below w.heap.size w w' := by
  have hbn := Frs.born_bd e.l e.got
  have hmE := Frs.mom_bd e.l Ctl.expN
  have hmL := Frs.secd_bd e.l Frs.lmN
  have hsE := Frs.secd_bd e.l Ctl.expN
  have HGB : Hid (0 ≤ Frs.secdL e.l Frs.lmN → Frs.secdL e.l Frs.lmN ≤ Frs.bornL e.l e.got → 0 ≤ (Frs.bornL e.l e.got - Frs.secdL e.l Frs.lmN) * Frs.clampL p.pc 100 ∧ (Frs.bornL e.l e.got - Frs.secdL e.l Frs.lmN) * Frs.clampL p.pc 100 ≤ 25340230079900) := Lib.hid fun h0 h => by
    have := Frs.guessV_bd p.pc hbn.1 hbn.2 h0 h
    exact ⟨this.1, this.2.1⟩
  have HR : Hid (Frs.lifeL e.l e.st e.got p = if 0 ≤ (Ctl.ctlL e.l).sMaxAge then (Ctl.ctlL e.l).sMaxAge else if 0 ≤ (Ctl.ctlL e.l).maxAge then (Ctl.ctlL e.l).maxAge
    else if Ctl.toldL e.l Ctl.expN = true then Frs.clampL (Frs.secdL e.l Ctl.expN - Frs.bornL e.l e.got) 2147483648
    else if Ctl.negL e.st = true then Frs.clampL p.ng 2147483648
    else min (max (if 0 ≤ Frs.secdL e.l Frs.lmN ∧ Frs.secdL e.l Frs.lmN ≤ Frs.bornL e.l e.got then ((Frs.bornL e.l e.got - Frs.secdL e.l Frs.lmN) * Frs.clampL p.pc 100).tdiv 100 else 0) (Frs.clampL p.mn 2147483648)) (Frs.clampL p.mx 2147483648)) := Lib.hid (Frs.life_secd e.l e.st e.got p)
  have hBo := dateR_any e A n c B m k
  have hCp := parseR_any A n c e.l
  have hCt := hasR_any A n c e.l Ctl.expN
  have hCe := secondR_any A n c e.l Ctl.expN
  have hCm := secondR_any A n c e.l Frs.lmN
  have HCn : Hid (Ctl.negL e.st = [404, 405, 410, 414, 501].any (· == e.st)) := Lib.hid (Frs.neg_any e.st)
  have HAm : Hid (∀ W : World, Calls Tryz.prog 36 #[.int .i64 e.st, .slice (some ⟨W.heap.size, 0, none⟩) 5 5] (W.alloc (.cells #[.int .i64 404, .int .i64 405, .int .i64 410, .int .i64 414, .int .i64 501] 3)) fun x w' => x = .returned (.bool (Ctl.negL e.st)) ∧ W.alloc (.cells #[.int .i64 404, .int .i64 405, .int .i64 410, .int .i64 414, .int .i64 501] 3) = w') := Lib.hid fun W => by
    rw [HCn.out]
    exact among_any e.st _ 5 5 [404, 405, 410, 414, 501] _ (show RdI (W.alloc (.cells #[.int .i64 404, .int .i64 405, .int .i64 410, .int .i64 414, .int .i64 501] 3)) (some ⟨W.heap.size, 0, none⟩) 5 _ from RdI.lit W [404, 405, 410, 414, 501] 3) (by omega)
  clear HCn
  unfold entV polV ctV at *
  have hal1 := alloc_below w (.cells #[.string (bs e.key), .string (bs e.vary), .int .i64 e.st, .string (bs e.rs), .int .i64 e.mi, .slice A n c, .slice B m k, .int .i64 e.asked, .int .i64 e.got] 27)
  have hr1 := heap_alloc_new w (.cells #[.string (bs e.key), .string (bs e.vary), .int .i64 e.st, .string (bs e.rs), .int .i64 e.mi, .slice A n c, .slice B m k, .int .i64 e.asked, .int .i64 e.got] 27)
  have hal2 := alloc_below (w.alloc (.cells #[.string (bs e.key), .string (bs e.vary), .int .i64 e.st, .string (bs e.rs), .int .i64 e.mi, .slice A n c, .slice B m k, .int .i64 e.asked, .int .i64 e.got] 27)) (.cells #[.int .i64 p.mn, .int .i64 p.pc, .int .i64 p.mx, .int .i64 p.ng] 29)
  have hb0 := bnext hal1 hal2 hal1.size
  have hr2 := heap_alloc_new (w.alloc (.cells #[.string (bs e.key), .string (bs e.vary), .int .i64 e.st, .string (bs e.rs), .int .i64 e.mi, .slice A n c, .slice B m k, .int .i64 e.asked, .int .i64 e.got] 27)) (.cells #[.int .i64 p.mn, .int .i64 p.pc, .int .i64 p.mx, .int .i64 p.ng] 29)
  rw [show (w.alloc (.cells #[.string (bs e.key), .string (bs e.vary), .int .i64 e.st, .string (bs e.rs), .int .i64 e.mi, .slice A n c, .slice B m k, .int .i64 e.asked, .int .i64 e.got] 27)).heap.size = w.heap.size + 1 by simp] at hr2
  replace hr1 := row_keep hr1 hal2
  clear hal1 hal2
  generalize Frs.lifeL e.l e.st e.got p = R at *
  go_enter Tryz.func12, Tryz.ntmps12
  go_upto_region 1 with fail
  generalize (w.alloc (.cells #[.string (bs e.key), .string (bs e.vary), .int .i64 e.st, .string (bs e.rs), .int .i64 e.mi, .slice A n c, .slice B m k, .int .i64 e.asked, .int .i64 e.got] 27)).alloc (.cells #[.int .i64 p.mn, .int .i64 p.pc, .int .i64 p.mx, .int .i64 p.ng] 29) = w2 at *
  replace hl := hl.step hb0
  have hbz : Below w2.heap.size w2 w2 := Below.refl _ _
  have HBo : Hid (∀ W, Below w2.heap.size w2 W → Calls Tryz.prog 35 #[.agg #[.string (bs e.key), .string (bs e.vary), .int .i64 e.st, .string (bs e.rs), .int .i64 e.mi, .slice A n c, .slice B m k, .int .i64 e.asked, .int .i64 e.got]] W fun x w' => x = .returned (.int .i64 (Frs.bornL e.l e.got)) ∧ Below W.heap.size W w') := Lib.hid fun W hb => hBo W (hl.step hb) hn hls
  have HCp := hCp w2 hl hn hls
  have HCt : Hid (∀ W, Below w2.heap.size w2 W → Calls Tryz.prog 32 #[.slice A n c, .string (bs Ctl.expN)] W fun x w' => x = .returned (.bool (Ctl.toldL e.l Ctl.expN)) ∧ Below W.heap.size W w') := Lib.hid fun W hb => hCt W (hl.step hb) hn hls (by decide)
  have HCe : Hid (∀ W, Below w2.heap.size w2 W → Calls Tryz.prog 34 #[.slice A n c, .string (bs Ctl.expN)] W fun x w' => x = .returned (.int .i64 (Frs.secdL e.l Ctl.expN)) ∧ Below W.heap.size W w') := Lib.hid fun W hb => hCe W (hl.step hb) hn hls (by decide)
  have HCm : Hid (∀ W, Below w2.heap.size w2 W → Calls Tryz.prog 34 #[.slice A n c, .string (bs Frs.lmN)] W fun x w' => x = .returned (.int .i64 (Frs.secdL e.l Frs.lmN)) ∧ Below W.heap.size W w') := Lib.hid fun W hb => hCm W (hl.step hb) hn hls (by decide)
  clear hBo hCp hCt hCe hCm hl hls
  generalize Ctl.ctlL e.l = dd at *
  generalize Ctl.toldL e.l Ctl.expN = te at *
  generalize Frs.secdL e.l Ctl.expN = ve at *
  generalize Frs.secdL e.l Frs.lmN = vm at *
  generalize Frs.bornL e.l e.got = bo at *
  generalize Ctl.negL e.st = ng at *
  obtain ⟨a0, a1, a2, a3, a4, a5, a6, a7, a8, -⟩ := row_facts9 hr1
  go_wp2_with fail
  refine HCp.mono ?_
  rintro x w3 ⟨rfl, hb3⟩
  clear a0 a1 a2 a3 a4 a5 a6 a7 a8
  clear HCp
  go_upto_region 2 with fail
  have hal := alloc_below w3 (.cells #[.bool dd.noStore, .bool dd.noCache, .bool dd.priv, .bool dd.pub, .bool dd.must, .bool dd.only, .int .i64 dd.maxAge, .int .i64 dd.sMaxAge, .int .i64 dd.minFresh, .int .i64 dd.maxStale] 37)
  have hr3 := heap_alloc_new w3 (.cells #[.bool dd.noStore, .bool dd.noCache, .bool dd.priv, .bool dd.pub, .bool dd.must, .bool dd.only, .int .i64 dd.maxAge, .int .i64 dd.sMaxAge, .int .i64 dd.minFresh, .int .i64 dd.maxStale] 37)
  replace hr1 := row_keep (row_keep hr1 hb3) hal
  replace hr2 := row_keep (row_keep hr2 hb3) hal
  replace hb0 := bnext (bnext hb0 hb3 hb0.size) hal (bnext hb0 hb3 hb0.size).size
  replace hbz := bnext hb3 hal hb3.size
  generalize w3.alloc (.cells #[.bool dd.noStore, .bool dd.noCache, .bool dd.priv, .bool dd.pub, .bool dd.must, .bool dd.only, .int .i64 dd.maxAge, .int .i64 dd.sMaxAge, .int .i64 dd.minFresh, .int .i64 dd.maxStale] 37) = w4 at *
  generalize w3.heap.size = g3 at *
  clear hal hb3
  by_cases hs : 0 ≤ dd.sMaxAge
  · have HL : Hid (R = dd.sMaxAge) := Lib.hid (by rw [HR.out, if_pos hs])
    clear HR HBo HCt HCe HCm HAm HGB
    obtain ⟨d0, d1, d2, d3, d4, d5, d6, d7, d8, d9, -⟩ := row_facts10 hr3
    go_wp2
    go_ret
    exact ⟨ret_int HL.out.symm, hb0⟩
  have HR2 := Lib.hid (HR.out.trans (if_neg hs))
  clear HR
  by_cases hm : 0 ≤ dd.maxAge
  · have HL : Hid (R = dd.maxAge) := Lib.hid (by rw [HR2.out, if_pos hm])
    clear HR2 HBo HCt HCe HCm HAm HGB
    obtain ⟨d0, d1, d2, d3, d4, d5, d6, d7, d8, d9, -⟩ := row_facts10 hr3
    go_wp2
    go_ret
    exact ⟨ret_int HL.out.symm, hb0⟩
  have HR := Lib.hid (HR2.out.trans (if_neg hm))
  clear HR2
  obtain ⟨a0, a1, a2, a3, a4, a5, a6, a7, a8, -⟩ := row_facts9 hr1
  obtain ⟨d0, d1, d2, d3, d4, d5, d6, d7, d8, d9, -⟩ := row_facts10 hr3
  have hC := HCt.out _ hbz
  clear HCt
  go_wp2_with fail
  refine hC.mono ?_
  rintro x w5 ⟨rfl, hb5⟩
  clear hC
  clear a0 a1 a2 a3 a4 a5 a6 a7 a8
  clear d0 d1 d2 d3 d4 d5 d6 d7 d8 d9
  replace hr1 := row_keep hr1 hb5
  replace hr2 := row_keep hr2 hb5
  replace hr3 := row_keep hr3 hb5
  replace hb0 := bnext hb0 hb5 hb0.size
  replace hbz := bnext hbz hb5 hbz.size
  clear hb5
  cases te with
  | true =>
    have HL : Hid (R = Frs.clampL (ve - bo) 2147483648) := Lib.hid (by rw [HR.out]; simp)
    clear HR HCm HAm HGB
    have q1 : IntKind.i64.wrap (ve - bo) = ve - bo := IntWalk.i64_in _ (by omega)
    have HK := Lib.hid (cutR_any (ve - bo) 2147483648 (by omega))
    generalize Frs.clampL (ve - bo) 2147483648 = cx at *
    go_upto_region 7 with fail
    refine wp_region_detN (n := 9) (S := fun L W => Below w5.heap.size w5 W) (by kernel_rfl) rfl (below_drewN (Below.refl _ _) 1) ?_
    refine' DetS.takeL (i := 0) (v := _) rfl (by kernel_rfl) (by kernel_rfl) (by kernel_rfl) (YS.pure rfl ?sd7_0 ?rd7_0) ?nd7_0
    case rd7_0 => intro L W hS; obtain ⟨k0, k1, k2, k3, k4, k5, k6, k7, k8, -⟩ := row_facts9 (row_keep hr1 hS); obtain ⟨m0, m1, m2, m3, -⟩ := row_facts4 (row_keep hr2 hS); go_simp; first | rfl | (rw [if_neg (by omega)] <;> rfl) | (rw [if_neg (by simp; omega)] <;> rfl) | (rw [if_neg (by simp)] <;> rfl)
    case sd7_0 => exact fun L W _ h => h
    simp only [Act.put, List.setIfInBounds_toArray, List.set_cons_zero, List.set_cons_succ]
    refine' DetS.takeL (i := 1) (v := _) rfl (by kernel_rfl) (by kernel_rfl) (by kernel_rfl) (YS.pure rfl ?sd7_1 ?rd7_1) ?nd7_1
    case rd7_1 => intro L W hS; obtain ⟨k0, k1, k2, k3, k4, k5, k6, k7, k8, -⟩ := row_facts9 (row_keep hr1 hS); obtain ⟨m0, m1, m2, m3, -⟩ := row_facts4 (row_keep hr2 hS); go_simp; first | rfl | (rw [if_neg (by omega)] <;> rfl) | (rw [if_neg (by simp; omega)] <;> rfl) | (rw [if_neg (by simp)] <;> rfl)
    case sd7_1 => exact fun L W _ h => h
    simp only [Act.put, List.setIfInBounds_toArray, List.set_cons_zero, List.set_cons_succ]
    refine' DetS.takeL (i := 2) (v := _) rfl (by kernel_rfl) (by kernel_rfl) (by kernel_rfl) (YS.pure rfl ?sd7_2 ?rd7_2) ?nd7_2
    case rd7_2 => intro L W hS; obtain ⟨k0, k1, k2, k3, k4, k5, k6, k7, k8, -⟩ := row_facts9 (row_keep hr1 hS); obtain ⟨m0, m1, m2, m3, -⟩ := row_facts4 (row_keep hr2 hS); go_simp; first | rfl | (rw [if_neg (by omega)] <;> rfl) | (rw [if_neg (by simp; omega)] <;> rfl) | (rw [if_neg (by simp)] <;> rfl)
    case sd7_2 => exact fun L W _ h => h
    simp only [Act.put, List.setIfInBounds_toArray, List.set_cons_zero, List.set_cons_succ]
    refine' DetS.takeL (i := 3) (v := _) rfl (by kernel_rfl) (by kernel_rfl) (by kernel_rfl) (YS.call (f := _) (args := _) rfl ?rd7_3 ?cd7_3) ?nd7_3
    case rd7_3 => intro W; go_simp; constructor <;> rfl
    case cd7_3 =>
      intro L W hL hS
      refine (HCe.out W (bnext hbz hS hbz.size)).mono ?_
      rintro e9 w9 ⟨rfl, hb9⟩
      exact ⟨by rfl, bnext hS hb9 hS.size⟩
    simp only [Act.put, List.setIfInBounds_toArray, List.set_cons_zero, List.set_cons_succ]
    refine' DetS.takeL (i := 4) (v := _) rfl (by kernel_rfl) (by kernel_rfl) (by kernel_rfl) (YS.pure rfl ?sd7_4 ?rd7_4) ?nd7_4
    case rd7_4 => intro L W hS; obtain ⟨k0, k1, k2, k3, k4, k5, k6, k7, k8, -⟩ := row_facts9 (row_keep hr1 hS); obtain ⟨m0, m1, m2, m3, -⟩ := row_facts4 (row_keep hr2 hS); go_simp; first | rfl | (rw [if_neg (by omega)] <;> rfl) | (rw [if_neg (by simp; omega)] <;> rfl) | (rw [if_neg (by simp)] <;> rfl)
    case sd7_4 => exact fun L W _ h => h
    simp only [Act.put, List.setIfInBounds_toArray, List.set_cons_zero, List.set_cons_succ]
    refine' DetS.takeL (i := 5) (v := _) rfl (by kernel_rfl) (by kernel_rfl) (by kernel_rfl) (YS.call (f := _) (args := _) rfl ?rd7_5 ?cd7_5) ?nd7_5
    case rd7_5 => intro W; go_simp; constructor <;> rfl
    case cd7_5 =>
      intro L W hL hS
      refine (HBo.out W (bnext hbz hS hbz.size)).mono ?_
      rintro e9 w9 ⟨rfl, hb9⟩
      exact ⟨by rfl, bnext hS hb9 hS.size⟩
    simp only [Act.put, List.setIfInBounds_toArray, List.set_cons_zero, List.set_cons_succ]
    refine' DetS.takeL (i := 6) (v := _) rfl (by kernel_rfl) (by kernel_rfl) (by kernel_rfl) (YS.pure rfl ?sd7_6 ?rd7_6) ?nd7_6
    case rd7_6 => intro L W hS; obtain ⟨k0, k1, k2, k3, k4, k5, k6, k7, k8, -⟩ := row_facts9 (row_keep hr1 hS); obtain ⟨m0, m1, m2, m3, -⟩ := row_facts4 (row_keep hr2 hS); go_simp; first | rfl | (rw [if_neg (by omega)] <;> rfl) | (rw [if_neg (by simp; omega)] <;> rfl) | (rw [if_neg (by simp)] <;> rfl)
    case sd7_6 => exact fun L W _ h => h
    simp only [Act.put, List.setIfInBounds_toArray, List.set_cons_zero, List.set_cons_succ]
    refine' DetS.takeL (i := 7) (v := _) rfl (by kernel_rfl) (by kernel_rfl) (by kernel_rfl) (YS.call (f := _) (args := _) rfl ?rd7_7 ?cd7_7) ?nd7_7
    case rd7_7 => intro W; go_simp; constructor <;> rfl
    case cd7_7 =>
      intro L W hL hS
      refine (HK.out W).mono ?_
      rintro e9 w9 ⟨rfl, rfl⟩
      exact ⟨by rfl, hS⟩
    simp only [Act.put, List.setIfInBounds_toArray, List.set_cons_zero, List.set_cons_succ]
    refine' DetS.takeL (i := 8) (v := _) rfl (by kernel_rfl) (by kernel_rfl) (by kernel_rfl) (YS.pure rfl ?sd7_8 ?rd7_8) ?nd7_8
    case rd7_8 => intro L W hS; obtain ⟨k0, k1, k2, k3, k4, k5, k6, k7, k8, -⟩ := row_facts9 (row_keep hr1 hS); obtain ⟨m0, m1, m2, m3, -⟩ := row_facts4 (row_keep hr2 hS); go_simp; first | rfl | (rw [if_neg (by omega)] <;> rfl) | (rw [if_neg (by simp; omega)] <;> rfl) | (rw [if_neg (by simp)] <;> rfl)
    case sd7_8 => exact fun L W _ h => h
    simp only [Act.put, List.setIfInBounds_toArray, List.set_cons_zero, List.set_cons_succ]
    refine DetS.done (by kernel_rfl) (fun W hS => ?_) _
    have hbW := bnext hb0 hS hb0.size
    clear hS
    go_wp2
    go_ret
    exact ⟨ret_int HL.out.symm, hbW⟩
  | false =>
    have HR2 := Lib.hid (HR.out.trans (if_neg (by decide)))
    clear HR HCe
    have hC := HAm.out w5
    clear HAm
    obtain ⟨a0, a1, a2, a3, a4, a5, a6, a7, a8, -⟩ := row_facts9 hr1
    go_wp2_with fail
    refine hC.mono ?_
    rintro x w6 ⟨rfl, hw6⟩
    clear hC
    have hal := alloc_below w5 (.cells #[.int .i64 404, .int .i64 405, .int .i64 410, .int .i64 414, .int .i64 501] 3)
    rw [hw6] at hal
    clear a0 a1 a2 a3 a4 a5 a6 a7 a8
    replace hr1 := row_keep hr1 hal
    replace hr2 := row_keep hr2 hal
    replace hr3 := row_keep hr3 hal
    replace hb0 := bnext hb0 hal hb0.size
    replace hbz := bnext hbz hal hbz.size
    clear hal hw6
    cases ng with
    | true =>
      have HL : Hid (R = Frs.clampL p.ng 2147483648) := Lib.hid (by rw [HR2.out]; simp)
      clear HR2 HCm HBo HGB
      obtain ⟨p0, p1, p2, p3, -⟩ := row_facts4 hr2
      have hK := cutR_any p.ng 2147483648 (by omega)
      go_wp2_with fail
      refine (hK _).mono ?_
      rintro x w8 ⟨rfl, rfl⟩
      go_wp2
      go_ret
      exact ⟨ret_int HL.out.symm, hb0⟩
    | false =>
      have HR := Lib.hid (HR2.out.trans (if_neg (by decide)))
      clear HR2
      obtain ⟨a0, a1, a2, a3, a4, a5, a6, a7, a8, -⟩ := row_facts9 hr1
      have hC := HCm.out _ hbz
      clear HCm
      go_wp2_with fail
      refine hC.mono ?_
      rintro x w7 ⟨rfl, hb7⟩
      clear hC
      clear a0 a1 a2 a3 a4 a5 a6 a7 a8
      replace hr1 := row_keep hr1 hb7
      replace hr2 := row_keep hr2 hb7
      replace hr3 := row_keep hr3 hb7
      replace hb0 := bnext hb0 hb7 hb0.size
      replace hbz := bnext hbz hb7 hbz.size
      clear hb7
      have hK1 := fun W => cutR_any p.mn 2147483648 (by omega) W
      have hK2 := fun W => cutR_any p.mx 2147483648 (by omega) W
      have HK3 := Lib.hid (fun W => cutR_any p.pc 100 (by omega) W)
      generalize Frs.clampL p.mn 2147483648 = cmn at *
      generalize Frs.clampL p.mx 2147483648 = cmx at *
      generalize Frs.clampL p.pc 100 = cpc at *
      have HK1 := Lib.hid hK1
      have HK2 := Lib.hid hK2
      clear hK1 hK2
      by_cases hv0 : 0 ≤ vm
      · 
        obtain ⟨a0, a1, a2, a3, a4, a5, a6, a7, a8, -⟩ := row_facts9 hr1
        have hC := HBo.out _ hbz
        go_wp2_with fail
        refine hC.mono ?_
        rintro x w8 ⟨rfl, hb8⟩
        clear hC
        clear a0 a1 a2 a3 a4 a5 a6 a7 a8
        replace hr1 := row_keep hr1 hb8
        replace hr2 := row_keep hr2 hb8
        replace hr3 := row_keep hr3 hb8
        replace hb0 := bnext hb0 hb8 hb0.size
        replace hbz := bnext hbz hb8 hbz.size
        clear hb8
        by_cases hvb : vm ≤ bo
        · have HG2 := HGB.out hv0 hvb
          have HL : Hid (R = min (max (((bo - vm) * cpc).tdiv 100) cmn) cmx) := Lib.hid (by rw [HR.out, if_pos ⟨hv0, hvb⟩])
          have hq0 : 0 ≤ ((bo - vm) * cpc).tdiv 100 ∧ ((bo - vm) * cpc).tdiv 100 ≤ 25340230079900 := by rw [Int.tdiv_eq_ediv_of_nonneg HG2.1]; omega
          have q1 : IntKind.i64.wrap (bo - vm) = bo - vm := IntWalk.i64_in _ (by omega)
          have q2 : IntKind.i64.wrap ((bo - vm) * cpc) = (bo - vm) * cpc := IntWalk.i64_in _ (by omega)
          have q3 : IntKind.i64.wrap (((bo - vm) * cpc).tdiv 100) = ((bo - vm) * cpc).tdiv 100 := IntWalk.i64_in _ (by omega)
          clear HR HGB
          go_upto_region 13 with fail
          go_cut [6] (fun v wc => v = .int .i64 (((bo - vm) * cpc).tdiv 100) ∧ Below w8.heap.size w8 wc)
          case first =>
            refine wp_region_detN (n := 10) (S := fun L W => Below w8.heap.size w8 W) (by kernel_rfl) rfl (below_drewN (Below.refl _ _) 1) ?_
            refine' DetS.takeL (i := 0) (v := _) rfl (by kernel_rfl) (by kernel_rfl) (by kernel_rfl) (YS.pure rfl ?sd13_0 ?rd13_0) ?nd13_0
            case rd13_0 => intro L W hS; obtain ⟨k0, k1, k2, k3, k4, k5, k6, k7, k8, -⟩ := row_facts9 (row_keep hr1 hS); obtain ⟨m0, m1, m2, m3, -⟩ := row_facts4 (row_keep hr2 hS); go_simp; first | rfl | (rw [if_neg (by omega)] <;> rfl) | (rw [if_neg (by simp; omega)] <;> rfl) | (rw [if_neg (by simp)] <;> rfl)
            case sd13_0 => exact fun L W _ h => h
            simp only [Act.put, List.setIfInBounds_toArray, List.set_cons_zero, List.set_cons_succ]
            refine' DetS.takeL (i := 1) (v := _) rfl (by kernel_rfl) (by kernel_rfl) (by kernel_rfl) (YS.call (f := _) (args := _) rfl ?rd13_1 ?cd13_1) ?nd13_1
            case rd13_1 => intro W; go_simp; constructor <;> rfl
            case cd13_1 =>
              intro L W hL hS
              refine (HBo.out W (bnext hbz hS hbz.size)).mono ?_
              rintro e9 w9 ⟨rfl, hb9⟩
              exact ⟨by rfl, bnext hS hb9 hS.size⟩
            simp only [Act.put, List.setIfInBounds_toArray, List.set_cons_zero, List.set_cons_succ]
            refine' DetS.takeL (i := 2) (v := _) rfl (by kernel_rfl) (by kernel_rfl) (by kernel_rfl) (YS.pure rfl ?sd13_2 ?rd13_2) ?nd13_2
            case rd13_2 => intro L W hS; obtain ⟨k0, k1, k2, k3, k4, k5, k6, k7, k8, -⟩ := row_facts9 (row_keep hr1 hS); obtain ⟨m0, m1, m2, m3, -⟩ := row_facts4 (row_keep hr2 hS); go_simp; first | rfl | (rw [if_neg (by omega)] <;> rfl) | (rw [if_neg (by simp; omega)] <;> rfl) | (rw [if_neg (by simp)] <;> rfl)
            case sd13_2 => exact fun L W _ h => h
            simp only [Act.put, List.setIfInBounds_toArray, List.set_cons_zero, List.set_cons_succ]
            refine' DetS.takeL (i := 3) (v := _) rfl (by kernel_rfl) (by kernel_rfl) (by kernel_rfl) (YS.pure rfl ?sd13_3 ?rd13_3) ?nd13_3
            case rd13_3 => intro L W hS; obtain ⟨k0, k1, k2, k3, k4, k5, k6, k7, k8, -⟩ := row_facts9 (row_keep hr1 hS); obtain ⟨m0, m1, m2, m3, -⟩ := row_facts4 (row_keep hr2 hS); go_simp; first | rfl | (rw [if_neg (by omega)] <;> rfl) | (rw [if_neg (by simp; omega)] <;> rfl) | (rw [if_neg (by simp)] <;> rfl)
            case sd13_3 => exact fun L W _ h => h
            simp only [Act.put, List.setIfInBounds_toArray, List.set_cons_zero, List.set_cons_succ]
            refine' DetS.takeL (i := 4) (v := _) rfl (by kernel_rfl) (by kernel_rfl) (by kernel_rfl) (YS.pure rfl ?sd13_4 ?rd13_4) ?nd13_4
            case rd13_4 => intro L W hS; obtain ⟨k0, k1, k2, k3, k4, k5, k6, k7, k8, -⟩ := row_facts9 (row_keep hr1 hS); obtain ⟨m0, m1, m2, m3, -⟩ := row_facts4 (row_keep hr2 hS); go_simp; first | rfl | (rw [if_neg (by omega)] <;> rfl) | (rw [if_neg (by simp; omega)] <;> rfl) | (rw [if_neg (by simp)] <;> rfl)
            case sd13_4 => exact fun L W _ h => h
            simp only [Act.put, List.setIfInBounds_toArray, List.set_cons_zero, List.set_cons_succ]
            refine' DetS.takeL (i := 5) (v := _) rfl (by kernel_rfl) (by kernel_rfl) (by kernel_rfl) (YS.pure rfl ?sd13_5 ?rd13_5) ?nd13_5
            case rd13_5 => intro L W hS; obtain ⟨k0, k1, k2, k3, k4, k5, k6, k7, k8, -⟩ := row_facts9 (row_keep hr1 hS); obtain ⟨m0, m1, m2, m3, -⟩ := row_facts4 (row_keep hr2 hS); go_simp; first | rfl | (rw [if_neg (by omega)] <;> rfl) | (rw [if_neg (by simp; omega)] <;> rfl) | (rw [if_neg (by simp)] <;> rfl)
            case sd13_5 => exact fun L W _ h => h
            simp only [Act.put, List.setIfInBounds_toArray, List.set_cons_zero, List.set_cons_succ]
            refine' DetS.takeL (i := 6) (v := _) rfl (by kernel_rfl) (by kernel_rfl) (by kernel_rfl) (YS.call (f := _) (args := _) rfl ?rd13_6 ?cd13_6) ?nd13_6
            case rd13_6 => intro W; go_simp; constructor <;> rfl
            case cd13_6 =>
              intro L W hL hS
              refine (HK3.out W).mono ?_
              rintro e9 w9 ⟨rfl, rfl⟩
              exact ⟨by rfl, hS⟩
            simp only [Act.put, List.setIfInBounds_toArray, List.set_cons_zero, List.set_cons_succ]
            refine' DetS.takeL (i := 7) (v := _) rfl (by kernel_rfl) (by kernel_rfl) (by kernel_rfl) (YS.pure rfl ?sd13_7 ?rd13_7) ?nd13_7
            case rd13_7 => intro L W hS; obtain ⟨k0, k1, k2, k3, k4, k5, k6, k7, k8, -⟩ := row_facts9 (row_keep hr1 hS); obtain ⟨m0, m1, m2, m3, -⟩ := row_facts4 (row_keep hr2 hS); go_simp; first | rfl | (rw [if_neg (by omega)] <;> rfl) | (rw [if_neg (by simp; omega)] <;> rfl) | (rw [if_neg (by simp)] <;> rfl)
            case sd13_7 => exact fun L W _ h => h
            simp only [Act.put, List.setIfInBounds_toArray, List.set_cons_zero, List.set_cons_succ]
            refine' DetS.takeL (i := 8) (v := _) rfl (by kernel_rfl) (by kernel_rfl) (by kernel_rfl) (YS.pure rfl ?sd13_8 ?rd13_8) ?nd13_8
            case rd13_8 => intro L W hS; obtain ⟨k0, k1, k2, k3, k4, k5, k6, k7, k8, -⟩ := row_facts9 (row_keep hr1 hS); obtain ⟨m0, m1, m2, m3, -⟩ := row_facts4 (row_keep hr2 hS); go_simp; first | rfl | (rw [if_neg (by omega)] <;> rfl) | (rw [if_neg (by simp; omega)] <;> rfl) | (rw [if_neg (by simp)] <;> rfl)
            case sd13_8 => exact fun L W _ h => h
            simp only [Act.put, List.setIfInBounds_toArray, List.set_cons_zero, List.set_cons_succ]
            refine' DetS.takeL (i := 9) (v := _) rfl (by kernel_rfl) (by kernel_rfl) (by kernel_rfl) (YS.pure rfl ?sd13_9 ?rd13_9) ?nd13_9
            case rd13_9 => intro L W hS; obtain ⟨k0, k1, k2, k3, k4, k5, k6, k7, k8, -⟩ := row_facts9 (row_keep hr1 hS); obtain ⟨m0, m1, m2, m3, -⟩ := row_facts4 (row_keep hr2 hS); go_simp; first | rfl | (rw [if_neg (by omega)] <;> rfl) | (rw [if_neg (by simp; omega)] <;> rfl) | (rw [if_neg (by simp)] <;> rfl)
            case sd13_9 => exact fun L W _ h => h
            simp only [Act.put, List.setIfInBounds_toArray, List.set_cons_zero, List.set_cons_succ]
            refine DetS.done (by kernel_rfl) (fun W hS => ?_) _
            have hbW := hS
            clear hS
            go_wp2
            go_meet
            case rel => exact ⟨rfl, hbW⟩
          case rest =>
            obtain ⟨rfl, hb9⟩ := hcut
            clear HBo HK3 q1 q2 q3 HG2
            generalize ((bo - vm) * cpc).tdiv 100 = gg at *
            replace hr1 := row_keep hr1 hb9
            replace hr2 := row_keep hr2 hb9
            replace hr3 := row_keep hr3 hb9
            replace hb0 := bnext hb0 hb9 hb0.size
            obtain ⟨p0, p1, p2, p3, -⟩ := row_facts4 hr2
            by_cases hx : gg < cmn
            · have hxx : max gg cmn = cmn := by omega
              rw [hxx] at HL
              go_wp2_with fail
              refine (HK1.out _).mono ?_
              rintro x z1 ⟨rfl, rfl⟩
              go_wp2_with fail
              refine (HK1.out _).mono ?_
              rintro x z2 ⟨rfl, rfl⟩
              clear p0 p1 p2 p3
              clear hxx
              by_cases hy : cmx < cmn
              · have HL2 : Hid (R = cmx) := Lib.hid (by have := HL.out; omega)
                clear HL
                obtain ⟨p0, p1, p2, p3, -⟩ := row_facts4 hr2
                go_wp2_with fail
                refine (HK2.out _).mono ?_
                rintro x y1 ⟨rfl, rfl⟩
                go_wp2_with fail
                refine (HK2.out _).mono ?_
                rintro x y2 ⟨rfl, rfl⟩
                go_wp2
                go_ret
                exact ⟨ret_int HL2.out.symm, hb0⟩
              · have HL2 : Hid (R = cmn) := Lib.hid (by have := HL.out; omega)
                clear HL
                obtain ⟨p0, p1, p2, p3, -⟩ := row_facts4 hr2
                go_wp2_with fail
                refine (HK2.out _).mono ?_
                rintro x y1 ⟨rfl, rfl⟩
                go_wp2
                go_ret
                exact ⟨ret_int HL2.out.symm, hb0⟩
            · have hxx : max gg cmn = gg := by omega
              rw [hxx] at HL
              go_wp2_with fail
              refine (HK1.out _).mono ?_
              rintro x z1 ⟨rfl, rfl⟩
              clear p0 p1 p2 p3
              clear hxx
              by_cases hy : cmx < gg
              · have HL2 : Hid (R = cmx) := Lib.hid (by have := HL.out; omega)
                clear HL
                obtain ⟨p0, p1, p2, p3, -⟩ := row_facts4 hr2
                go_wp2_with fail
                refine (HK2.out _).mono ?_
                rintro x y1 ⟨rfl, rfl⟩
                go_wp2_with fail
                refine (HK2.out _).mono ?_
                rintro x y2 ⟨rfl, rfl⟩
                go_wp2
                go_ret
                exact ⟨ret_int HL2.out.symm, hb0⟩
              · have HL2 : Hid (R = gg) := Lib.hid (by have := HL.out; omega)
                clear HL
                obtain ⟨p0, p1, p2, p3, -⟩ := row_facts4 hr2
                go_wp2_with fail
                refine (HK2.out _).mono ?_
                rintro x y1 ⟨rfl, rfl⟩
                go_wp2
                go_ret
                exact ⟨ret_int HL2.out.symm, hb0⟩
        · have HL : Hid (R = min (max 0 cmn) cmx) := Lib.hid (by rw [HR.out, if_neg (fun h => hvb h.2)])
          clear HR HK3 HBo HGB
          obtain ⟨p0, p1, p2, p3, -⟩ := row_facts4 hr2
          by_cases hx : 0 < cmn
          · have hxx : max 0 cmn = cmn := by omega
            rw [hxx] at HL
            go_wp2_with fail
            refine (HK1.out _).mono ?_
            rintro x z1 ⟨rfl, rfl⟩
            go_wp2_with fail
            refine (HK1.out _).mono ?_
            rintro x z2 ⟨rfl, rfl⟩
            clear p0 p1 p2 p3
            clear hxx
            by_cases hy : cmx < cmn
            · have HL2 : Hid (R = cmx) := Lib.hid (by have := HL.out; omega)
              clear HL
              obtain ⟨p0, p1, p2, p3, -⟩ := row_facts4 hr2
              go_wp2_with fail
              refine (HK2.out _).mono ?_
              rintro x y1 ⟨rfl, rfl⟩
              go_wp2_with fail
              refine (HK2.out _).mono ?_
              rintro x y2 ⟨rfl, rfl⟩
              go_wp2
              go_ret
              exact ⟨ret_int HL2.out.symm, hb0⟩
            · have HL2 : Hid (R = cmn) := Lib.hid (by have := HL.out; omega)
              clear HL
              obtain ⟨p0, p1, p2, p3, -⟩ := row_facts4 hr2
              go_wp2_with fail
              refine (HK2.out _).mono ?_
              rintro x y1 ⟨rfl, rfl⟩
              go_wp2
              go_ret
              exact ⟨ret_int HL2.out.symm, hb0⟩
          · have hxx : max 0 cmn = 0 := by omega
            rw [hxx] at HL
            go_wp2_with fail
            refine (HK1.out _).mono ?_
            rintro x z1 ⟨rfl, rfl⟩
            clear p0 p1 p2 p3
            clear hxx
            by_cases hy : cmx < 0
            · have HL2 : Hid (R = cmx) := Lib.hid (by have := HL.out; omega)
              clear HL
              obtain ⟨p0, p1, p2, p3, -⟩ := row_facts4 hr2
              go_wp2_with fail
              refine (HK2.out _).mono ?_
              rintro x y1 ⟨rfl, rfl⟩
              go_wp2_with fail
              refine (HK2.out _).mono ?_
              rintro x y2 ⟨rfl, rfl⟩
              go_wp2
              go_ret
              exact ⟨ret_int HL2.out.symm, hb0⟩
            · have HL2 : Hid (R = 0) := Lib.hid (by have := HL.out; omega)
              clear HL
              obtain ⟨p0, p1, p2, p3, -⟩ := row_facts4 hr2
              go_wp2_with fail
              refine (HK2.out _).mono ?_
              rintro x y1 ⟨rfl, rfl⟩
              go_wp2
              go_ret
              exact ⟨ret_int HL2.out.symm, hb0⟩
      · have HL : Hid (R = min (max 0 cmn) cmx) := Lib.hid (by rw [HR.out, if_neg (fun h => hv0 h.1)])
        clear HR HK3 HBo HGB
        obtain ⟨p0, p1, p2, p3, -⟩ := row_facts4 hr2
        by_cases hx : 0 < cmn
        · have hxx : max 0 cmn = cmn := by omega
          rw [hxx] at HL
          go_wp2_with fail
          refine (HK1.out _).mono ?_
          rintro x z1 ⟨rfl, rfl⟩
          go_wp2_with fail
          refine (HK1.out _).mono ?_
          rintro x z2 ⟨rfl, rfl⟩
          clear p0 p1 p2 p3
          clear hxx
          by_cases hy : cmx < cmn
          · have HL2 : Hid (R = cmx) := Lib.hid (by have := HL.out; omega)
            clear HL
            obtain ⟨p0, p1, p2, p3, -⟩ := row_facts4 hr2
            go_wp2_with fail
            refine (HK2.out _).mono ?_
            rintro x y1 ⟨rfl, rfl⟩
            go_wp2_with fail
            refine (HK2.out _).mono ?_
            rintro x y2 ⟨rfl, rfl⟩
            go_wp2
            go_ret
            exact ⟨ret_int HL2.out.symm, hb0⟩
          · have HL2 : Hid (R = cmn) := Lib.hid (by have := HL.out; omega)
            clear HL
            obtain ⟨p0, p1, p2, p3, -⟩ := row_facts4 hr2
            go_wp2_with fail
            refine (HK2.out _).mono ?_
            rintro x y1 ⟨rfl, rfl⟩
            go_wp2
            go_ret
            exact ⟨ret_int HL2.out.symm, hb0⟩
        · have hxx : max 0 cmn = 0 := by omega
          rw [hxx] at HL
          go_wp2_with fail
          refine (HK1.out _).mono ?_
          rintro x z1 ⟨rfl, rfl⟩
          clear p0 p1 p2 p3
          clear hxx
          by_cases hy : cmx < 0
          · have HL2 : Hid (R = cmx) := Lib.hid (by have := HL.out; omega)
            clear HL
            obtain ⟨p0, p1, p2, p3, -⟩ := row_facts4 hr2
            go_wp2_with fail
            refine (HK2.out _).mono ?_
            rintro x y1 ⟨rfl, rfl⟩
            go_wp2_with fail
            refine (HK2.out _).mono ?_
            rintro x y2 ⟨rfl, rfl⟩
            go_wp2
            go_ret
            exact ⟨ret_int HL2.out.symm, hb0⟩
          · have HL2 : Hid (R = 0) := Lib.hid (by have := HL.out; omega)
            clear HL
            obtain ⟨p0, p1, p2, p3, -⟩ := row_facts4 hr2
            go_wp2_with fail
            refine (HK2.out _).mono ?_
            rintro x y1 ⟨rfl, rfl⟩
            go_wp2
            go_ret
            exact ⟨ret_int HL2.out.symm, hb0⟩
end Go.Proofs.YtfhkgbimnfjfhaaGreatDoor
