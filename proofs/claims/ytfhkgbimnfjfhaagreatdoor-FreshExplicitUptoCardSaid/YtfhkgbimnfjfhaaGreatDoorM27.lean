/- Joined texts: May an entry be used? The program's Judge. The conditions stand in each line. -/
import Derived.Test.YtfhkgbimnfjfhaaGreatDoorM26
set_option linter.unusedVariables false
set_option linter.unusedSimpArgs false
namespace Go.Proofs.YtfhkgbimnfjfhaaGreatDoor
open Go.RowKit

set_option maxRecDepth 100000
set_option maxHeartbeats 8000000 in
theorem judge_any (cc : Ctl.Ct) (e : Frs.Ent) (A : Option Addr) (n c : Nat) (B : Option Addr) (m k : Nat) (p : Frs.Pol) (now : Int) (w : World) (hM : MaxL w) (hl : RdF w A n e.l) (hn : n ≤ 1048576) (hls : FlenS e.l) :
    Calls Tryz.prog 16 #[ctV cc, entV e A n c B m k, polV p, .int .i64 now] w fun x w' => x = .returned (.int .i64 (Frs.judgeL cc e.l e.st e.asked e.got p now)) ∧ Below w.heap.size w w' := by
  have hab := Frs.age_bd e.l e.asked e.got now
  have hfb := Frs.life_bd e.l e.st e.got p
  have HR : Hid (Frs.judgeL cc e.l e.st e.asked e.got p now = if cc.noCache = true ∨ (Ctl.ctlL e.l).noCache = true ∨ (cc.maxAge ≠ -1 ∧ cc.maxAge < Frs.ageL e.l e.asked e.got now) ∨ (cc.minFresh ≠ -1 ∧ Frs.lifeL e.l e.st e.got p - Frs.ageL e.l e.asked e.got now < cc.minFresh) then 2
    else if 0 < Frs.lifeL e.l e.st e.got p - Frs.ageL e.l e.asked e.got now then 0
    else if (Ctl.ctlL e.l).must = true ∨ 0 ≤ (Ctl.ctlL e.l).sMaxAge then 2
    else if cc.maxStale ≠ -1 ∧ -(Frs.lifeL e.l e.st e.got p - Frs.ageL e.l e.asked e.got now) ≤ cc.maxStale then 1 else 2) := Lib.hid rfl
  have hCp := cparse_any A n c e.l
  have hCa := age_any e A n c B m k now
  have hCl := life_any e A n c B m k p
  unfold entV polV ctV at *
  generalize Frs.judgeL cc e.l e.st e.asked e.got p now = R at *
  obtain ⟨xs, xn, xp, xu, xm, xo, xA, xS, xF, xT⟩ := cc
  dsimp only at *
  have hal1 := alloc_below w (.cells #[.bool xs, .bool xn, .bool xp, .bool xu, .bool xm, .bool xo, .int .i64 xA, .int .i64 xS, .int .i64 xF, .int .i64 xT] 37)
  have hr0 := heap_alloc_new w (.cells #[.bool xs, .bool xn, .bool xp, .bool xu, .bool xm, .bool xo, .int .i64 xA, .int .i64 xS, .int .i64 xF, .int .i64 xT] 37)
  have hal2 := alloc_below (w.alloc (.cells #[.bool xs, .bool xn, .bool xp, .bool xu, .bool xm, .bool xo, .int .i64 xA, .int .i64 xS, .int .i64 xF, .int .i64 xT] 37)) (.cells #[.string (bs e.key), .string (bs e.vary), .int .i64 e.st, .string (bs e.rs), .int .i64 e.mi, .slice A n c, .slice B m k, .int .i64 e.asked, .int .i64 e.got] 27)
  have hr1 := heap_alloc_new (w.alloc (.cells #[.bool xs, .bool xn, .bool xp, .bool xu, .bool xm, .bool xo, .int .i64 xA, .int .i64 xS, .int .i64 xF, .int .i64 xT] 37)) (.cells #[.string (bs e.key), .string (bs e.vary), .int .i64 e.st, .string (bs e.rs), .int .i64 e.mi, .slice A n c, .slice B m k, .int .i64 e.asked, .int .i64 e.got] 27)
  have hal3 := alloc_below ((w.alloc (.cells #[.bool xs, .bool xn, .bool xp, .bool xu, .bool xm, .bool xo, .int .i64 xA, .int .i64 xS, .int .i64 xF, .int .i64 xT] 37)).alloc (.cells #[.string (bs e.key), .string (bs e.vary), .int .i64 e.st, .string (bs e.rs), .int .i64 e.mi, .slice A n c, .slice B m k, .int .i64 e.asked, .int .i64 e.got] 27)) (.cells #[.int .i64 p.mn, .int .i64 p.pc, .int .i64 p.mx, .int .i64 p.ng] 29)
  have hr2 := heap_alloc_new ((w.alloc (.cells #[.bool xs, .bool xn, .bool xp, .bool xu, .bool xm, .bool xo, .int .i64 xA, .int .i64 xS, .int .i64 xF, .int .i64 xT] 37)).alloc (.cells #[.string (bs e.key), .string (bs e.vary), .int .i64 e.st, .string (bs e.rs), .int .i64 e.mi, .slice A n c, .slice B m k, .int .i64 e.asked, .int .i64 e.got] 27)) (.cells #[.int .i64 p.mn, .int .i64 p.pc, .int .i64 p.mx, .int .i64 p.ng] 29)
  have hb0 := bnext (bnext hal1 hal2 hal1.size) hal3 (bnext hal1 hal2 hal1.size).size
  rw [show (w.alloc (.cells #[.bool xs, .bool xn, .bool xp, .bool xu, .bool xm, .bool xo, .int .i64 xA, .int .i64 xS, .int .i64 xF, .int .i64 xT] 37)).heap.size = w.heap.size + 1 by simp] at hr1
  rw [show ((w.alloc (.cells #[.bool xs, .bool xn, .bool xp, .bool xu, .bool xm, .bool xo, .int .i64 xA, .int .i64 xS, .int .i64 xF, .int .i64 xT] 37)).alloc (.cells #[.string (bs e.key), .string (bs e.vary), .int .i64 e.st, .string (bs e.rs), .int .i64 e.mi, .slice A n c, .slice B m k, .int .i64 e.asked, .int .i64 e.got] 27)).heap.size = w.heap.size + 1 + 1 by simp] at hr2
  replace hr0 := row_keep (row_keep hr0 hal2) hal3
  replace hr1 := row_keep hr1 hal3
  clear hal1 hal2 hal3
  go_enter Tryz.func16, Tryz.ntmps16
  go_upto_region 1 with fail
  generalize ((w.alloc (.cells #[.bool xs, .bool xn, .bool xp, .bool xu, .bool xm, .bool xo, .int .i64 xA, .int .i64 xS, .int .i64 xF, .int .i64 xT] 37)).alloc (.cells #[.string (bs e.key), .string (bs e.vary), .int .i64 e.st, .string (bs e.rs), .int .i64 e.mi, .slice A n c, .slice B m k, .int .i64 e.asked, .int .i64 e.got] 27)).alloc (.cells #[.int .i64 p.mn, .int .i64 p.pc, .int .i64 p.mx, .int .i64 p.ng] 29) = w2 at *
  replace hl := hl.step hb0
  have hM2 := maxl_b hM hb0
  have hbz : Below w2.heap.size w2 w2 := Below.refl _ _
  have HCp := hCp w2 hM2 hl hn hls
  have HCa : Hid (∀ W, Below w2.heap.size w2 W → Calls Tryz.prog 13 #[.agg #[.string (bs e.key), .string (bs e.vary), .int .i64 e.st, .string (bs e.rs), .int .i64 e.mi, .slice A n c, .slice B m k, .int .i64 e.asked, .int .i64 e.got], .int .i64 now] W fun x w' => x = .returned (.int .i64 (Frs.ageL e.l e.asked e.got now)) ∧ Below W.heap.size W w') := Lib.hid fun W hb => hCa W (hl.step hb) hn hls
  have HCl : Hid (∀ W, Below w2.heap.size w2 W → Calls Tryz.prog 11 #[.agg #[.string (bs e.key), .string (bs e.vary), .int .i64 e.st, .string (bs e.rs), .int .i64 e.mi, .slice A n c, .slice B m k, .int .i64 e.asked, .int .i64 e.got], .agg #[.int .i64 p.mn, .int .i64 p.pc, .int .i64 p.mx, .int .i64 p.ng]] W fun x w' => x = .returned (.int .i64 (Frs.lifeL e.l e.st e.got p)) ∧ Below W.heap.size W w') := Lib.hid fun W hb => hCl W (maxl_b hM2 hb) (hl.step hb) hn hls
  clear hCp hCa hCl hl hls hM hM2
  generalize Ctl.ctlL e.l = dd at *
  obtain ⟨ys, yn, yp, yu, ym, yo, yA, yS, yF, yT⟩ := dd
  dsimp only at *
  generalize Frs.ageL e.l e.asked e.got now = a at *
  generalize Frs.lifeL e.l e.st e.got p = f at *
  obtain ⟨a0, a1, a2, a3, a4, a5, a6, a7, a8, -⟩ := row_facts9 hr1
  go_wp2_with fail
  refine HCp.mono ?_
  rintro x w3 ⟨rfl, hb3⟩
  clear a0 a1 a2 a3 a4 a5 a6 a7 a8
  clear HCp
  go_upto_region 2 with fail
  have hal := alloc_below w3 (.cells #[.bool ys, .bool yn, .bool yp, .bool yu, .bool ym, .bool yo, .int .i64 yA, .int .i64 yS, .int .i64 yF, .int .i64 yT] 37)
  have hr3 := heap_alloc_new w3 (.cells #[.bool ys, .bool yn, .bool yp, .bool yu, .bool ym, .bool yo, .int .i64 yA, .int .i64 yS, .int .i64 yF, .int .i64 yT] 37)
  replace hr0 := row_keep (row_keep hr0 hb3) hal
  replace hr1 := row_keep (row_keep hr1 hb3) hal
  replace hr2 := row_keep (row_keep hr2 hb3) hal
  replace hb0 := bnext (bnext hb0 hb3 hb0.size) hal (bnext hb0 hb3 hb0.size).size
  replace hbz := bnext hb3 hal hb3.size
  generalize w3.alloc (.cells #[.bool ys, .bool yn, .bool yp, .bool yu, .bool ym, .bool yo, .int .i64 yA, .int .i64 yS, .int .i64 yF, .int .i64 yT] 37) = w4 at *
  generalize w3.heap.size = g3 at *
  clear hal hb3
  obtain ⟨a0, a1, a2, a3, a4, a5, a6, a7, a8, -⟩ := row_facts9 hr1
  have hC := HCa.out _ hbz
  clear HCa
  go_wp2_with fail
  refine hC.mono ?_
  rintro x w5 ⟨rfl, hb5⟩
  clear hC
  clear a0 a1 a2 a3 a4 a5 a6 a7 a8
  replace hr0 := row_keep hr0 hb5
  replace hr1 := row_keep hr1 hb5
  replace hr2 := row_keep hr2 hb5
  replace hr3 := row_keep hr3 hb5
  replace hb0 := bnext hb0 hb5 hb0.size
  replace hbz := bnext hbz hb5 hbz.size
  clear hb5
  obtain ⟨a0, a1, a2, a3, a4, a5, a6, a7, a8, -⟩ := row_facts9 hr1
  obtain ⟨p0, p1, p2, p3, -⟩ := row_facts4 hr2
  have q1 : IntKind.i64.wrap (f - a) = f - a := IntWalk.i64_in _ (by omega)
  have q2 : IntKind.i64.wrap (-(f - a)) = -(f - a) := IntWalk.i64_in _ (by omega)
  have q3 : IntKind.i64.wrap (a - f) = a - f := IntWalk.i64_in _ (by omega)
  have hC := HCl.out _ hbz
  clear HCl
  go_wp2_with fail
  refine hC.mono ?_
  rintro x w6 ⟨rfl, hb6⟩
  clear hC
  clear a0 a1 a2 a3 a4 a5 a6 a7 a8
  clear p0 p1 p2 p3
  replace hr0 := row_keep hr0 hb6
  replace hr1 := row_keep hr1 hb6
  replace hr2 := row_keep hr2 hb6
  replace hr3 := row_keep hr3 hb6
  replace hb0 := bnext hb0 hb6 hb0.size
  clear hb6 hbz hr1 hr2
  obtain ⟨c0, c1, c2, c3, c4, c5, c6, c7, c8, c9, -⟩ := row_facts10 hr0
  obtain ⟨d0, d1, d2, d3, d4, d5, d6, d7, d8, d9, -⟩ := row_facts10 hr3
  clear hr0 hr3
  go_upto_region 4 with fail
  cases xn with
  | true =>
    have HL : Hid (R = 2) := Lib.hid (by rw [HR.out]; exact if_pos (.inl rfl))
    clear HR
    go_wp2
    go_ret
    exact ⟨ret_int HL.out.symm, hb0⟩
  | false =>
    cases yn with
    | true =>
      have HL : Hid (R = 2) := Lib.hid (by rw [HR.out]; exact if_pos (.inr (.inl rfl)))
      clear HR
      go_wp2
      go_ret
      exact ⟨ret_int HL.out.symm, hb0⟩
    | false =>
      by_cases M : xA ≠ -1 ∧ xA < a
      · have qA : (xA != -1) = true := by simpa using M.1
        have hA := M.2
        have HL : Hid (R = 2) := Lib.hid (by rw [HR.out]; exact if_pos (.inr (.inr (.inl M))))
        clear HR M
        go_wp2
        go_ret
        exact ⟨ret_int HL.out.symm, hb0⟩
      · by_cases eA : xA = -1
        · subst eA
          by_cases F : xF ≠ -1 ∧ f - a < xF
          · have qF : (xF != -1) = true := by simpa using F.1
            have hF := F.2
            have HL : Hid (R = 2) := Lib.hid (by rw [HR.out]; exact if_pos (.inr (.inr (.inr F))))
            clear HR F
            go_wp2
            go_ret
            exact ⟨ret_int HL.out.symm, hb0⟩
          · by_cases eF : xF = -1
            · replace HR := Lib.hid (HR.out.trans (if_neg (by rintro (h | h | h | h); cases h; cases h; exact M h; exact F h)))
              clear M F
              subst eF
              by_cases hZ : 0 < f - a
              · have HL : Hid (R = 0) := Lib.hid (by rw [HR.out]; exact if_pos hZ)
                clear HR
                go_wp2
                go_ret
                exact ⟨ret_int HL.out.symm, hb0⟩
              · replace HR := Lib.hid (HR.out.trans (if_neg hZ))
                cases ym with
                | true =>
                  have HL : Hid (R = 2) := Lib.hid (by rw [HR.out]; exact if_pos (.inl rfl))
                  clear HR
                  go_wp2
                  go_ret
                  exact ⟨ret_int HL.out.symm, hb0⟩
                | false =>
                  by_cases hS : 0 ≤ yS
                  · have HL : Hid (R = 2) := Lib.hid (by rw [HR.out]; exact if_pos (.inr hS))
                    clear HR
                    go_wp2
                    go_ret
                    exact ⟨ret_int HL.out.symm, hb0⟩
                  · replace HR := Lib.hid (HR.out.trans (if_neg (by rintro (h | h); cases h; exact hS h)))
                    by_cases hT : xT = -1
                    · subst hT
                      have HL : Hid (R = 2) := Lib.hid (by rw [HR.out]; exact if_neg (fun h => h.1 rfl))
                      clear HR
                      go_wp2
                      go_ret
                      exact ⟨ret_int HL.out.symm, hb0⟩
                    · have qT : (xT != -1) = true := by simpa using hT
                      by_cases hT2 : -(f - a) ≤ xT
                      · have HL : Hid (R = 1) := Lib.hid (by rw [HR.out]; exact if_pos ⟨hT, hT2⟩)
                        clear HR
                        go_wp2
                        go_ret
                        exact ⟨ret_int HL.out.symm, hb0⟩
                      · have HL : Hid (R = 2) := Lib.hid (by rw [HR.out]; exact if_neg (fun h => hT2 h.2))
                        clear HR
                        go_wp2
                        go_ret
                        exact ⟨ret_int HL.out.symm, hb0⟩
            · have qF : (xF != -1) = true := by simpa using eF
              have hF : ¬ f - a < xF := fun h => F ⟨eF, h⟩
              replace HR := Lib.hid (HR.out.trans (if_neg (by rintro (h | h | h | h); cases h; cases h; exact M h; exact F h)))
              clear M F
              by_cases hZ : 0 < f - a
              · have HL : Hid (R = 0) := Lib.hid (by rw [HR.out]; exact if_pos hZ)
                clear HR
                go_wp2
                go_ret
                exact ⟨ret_int HL.out.symm, hb0⟩
              · replace HR := Lib.hid (HR.out.trans (if_neg hZ))
                cases ym with
                | true =>
                  have HL : Hid (R = 2) := Lib.hid (by rw [HR.out]; exact if_pos (.inl rfl))
                  clear HR
                  go_wp2
                  go_ret
                  exact ⟨ret_int HL.out.symm, hb0⟩
                | false =>
                  by_cases hS : 0 ≤ yS
                  · have HL : Hid (R = 2) := Lib.hid (by rw [HR.out]; exact if_pos (.inr hS))
                    clear HR
                    go_wp2
                    go_ret
                    exact ⟨ret_int HL.out.symm, hb0⟩
                  · replace HR := Lib.hid (HR.out.trans (if_neg (by rintro (h | h); cases h; exact hS h)))
                    by_cases hT : xT = -1
                    · subst hT
                      have HL : Hid (R = 2) := Lib.hid (by rw [HR.out]; exact if_neg (fun h => h.1 rfl))
                      clear HR
                      go_wp2
                      go_ret
                      exact ⟨ret_int HL.out.symm, hb0⟩
                    · have qT : (xT != -1) = true := by simpa using hT
                      by_cases hT2 : -(f - a) ≤ xT
                      · have HL : Hid (R = 1) := Lib.hid (by rw [HR.out]; exact if_pos ⟨hT, hT2⟩)
                        clear HR
                        go_wp2
                        go_ret
                        exact ⟨ret_int HL.out.symm, hb0⟩
                      · have HL : Hid (R = 2) := Lib.hid (by rw [HR.out]; exact if_neg (fun h => hT2 h.2))
                        clear HR
                        go_wp2
                        go_ret
                        exact ⟨ret_int HL.out.symm, hb0⟩
        · have qA : (xA != -1) = true := by simpa using eA
          have hA : ¬ xA < a := fun h => M ⟨eA, h⟩
          by_cases F : xF ≠ -1 ∧ f - a < xF
          · have qF : (xF != -1) = true := by simpa using F.1
            have hF := F.2
            have HL : Hid (R = 2) := Lib.hid (by rw [HR.out]; exact if_pos (.inr (.inr (.inr F))))
            clear HR F
            go_wp2
            go_ret
            exact ⟨ret_int HL.out.symm, hb0⟩
          · by_cases eF : xF = -1
            · replace HR := Lib.hid (HR.out.trans (if_neg (by rintro (h | h | h | h); cases h; cases h; exact M h; exact F h)))
              clear M F
              subst eF
              by_cases hZ : 0 < f - a
              · have HL : Hid (R = 0) := Lib.hid (by rw [HR.out]; exact if_pos hZ)
                clear HR
                go_wp2
                go_ret
                exact ⟨ret_int HL.out.symm, hb0⟩
              · replace HR := Lib.hid (HR.out.trans (if_neg hZ))
                cases ym with
                | true =>
                  have HL : Hid (R = 2) := Lib.hid (by rw [HR.out]; exact if_pos (.inl rfl))
                  clear HR
                  go_wp2
                  go_ret
                  exact ⟨ret_int HL.out.symm, hb0⟩
                | false =>
                  by_cases hS : 0 ≤ yS
                  · have HL : Hid (R = 2) := Lib.hid (by rw [HR.out]; exact if_pos (.inr hS))
                    clear HR
                    go_wp2
                    go_ret
                    exact ⟨ret_int HL.out.symm, hb0⟩
                  · replace HR := Lib.hid (HR.out.trans (if_neg (by rintro (h | h); cases h; exact hS h)))
                    by_cases hT : xT = -1
                    · subst hT
                      have HL : Hid (R = 2) := Lib.hid (by rw [HR.out]; exact if_neg (fun h => h.1 rfl))
                      clear HR
                      go_wp2
                      go_ret
                      exact ⟨ret_int HL.out.symm, hb0⟩
                    · have qT : (xT != -1) = true := by simpa using hT
                      by_cases hT2 : -(f - a) ≤ xT
                      · have HL : Hid (R = 1) := Lib.hid (by rw [HR.out]; exact if_pos ⟨hT, hT2⟩)
                        clear HR
                        go_wp2
                        go_ret
                        exact ⟨ret_int HL.out.symm, hb0⟩
                      · have HL : Hid (R = 2) := Lib.hid (by rw [HR.out]; exact if_neg (fun h => hT2 h.2))
                        clear HR
                        go_wp2
                        go_ret
                        exact ⟨ret_int HL.out.symm, hb0⟩
            · have qF : (xF != -1) = true := by simpa using eF
              have hF : ¬ f - a < xF := fun h => F ⟨eF, h⟩
              replace HR := Lib.hid (HR.out.trans (if_neg (by rintro (h | h | h | h); cases h; cases h; exact M h; exact F h)))
              clear M F
              by_cases hZ : 0 < f - a
              · have HL : Hid (R = 0) := Lib.hid (by rw [HR.out]; exact if_pos hZ)
                clear HR
                go_wp2
                go_ret
                exact ⟨ret_int HL.out.symm, hb0⟩
              · replace HR := Lib.hid (HR.out.trans (if_neg hZ))
                cases ym with
                | true =>
                  have HL : Hid (R = 2) := Lib.hid (by rw [HR.out]; exact if_pos (.inl rfl))
                  clear HR
                  go_wp2
                  go_ret
                  exact ⟨ret_int HL.out.symm, hb0⟩
                | false =>
                  by_cases hS : 0 ≤ yS
                  · have HL : Hid (R = 2) := Lib.hid (by rw [HR.out]; exact if_pos (.inr hS))
                    clear HR
                    go_wp2
                    go_ret
                    exact ⟨ret_int HL.out.symm, hb0⟩
                  · replace HR := Lib.hid (HR.out.trans (if_neg (by rintro (h | h); cases h; exact hS h)))
                    by_cases hT : xT = -1
                    · subst hT
                      have HL : Hid (R = 2) := Lib.hid (by rw [HR.out]; exact if_neg (fun h => h.1 rfl))
                      clear HR
                      go_wp2
                      go_ret
                      exact ⟨ret_int HL.out.symm, hb0⟩
                    · have qT : (xT != -1) = true := by simpa using hT
                      by_cases hT2 : -(f - a) ≤ xT
                      · have HL : Hid (R = 1) := Lib.hid (by rw [HR.out]; exact if_pos ⟨hT, hT2⟩)
                        clear HR
                        go_wp2
                        go_ret
                        exact ⟨ret_int HL.out.symm, hb0⟩
                      · have HL : Hid (R = 2) := Lib.hid (by rw [HR.out]; exact if_neg (fun h => hT2 h.2))
                        clear HR
                        go_wp2
                        go_ret
                        exact ⟨ret_int HL.out.symm, hb0⟩
end Go.Proofs.YtfhkgbimnfjfhaaGreatDoor
