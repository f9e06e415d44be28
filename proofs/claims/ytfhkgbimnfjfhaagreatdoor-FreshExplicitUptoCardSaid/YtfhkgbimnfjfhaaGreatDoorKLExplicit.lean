/- FreshExplicit: for every input within the second form's bound the law answers true and leaves its arguments as they were. Condition: the bulk of the arguments at most 1048576. -/
import Derived.Test.YtfhkgbimnfjfhaaGreatDoorCards
import Derived.Test.YtfhkgbimnfjfhaaGreatDoorTie
import Derived.Test.YtfhkgbimnfjfhaaGreatDoorM34
import Derived.Test.YtfhkgbimnfjfhaaGreatDoorM36
import Derived.Test.YtfhkgbimnfjfhaaGreatDoorM38
import Derived.Test.YtfhkgbimnfjfhaaGreatDoorM39
import Derived.WalkKit
import Derived.ProofKit
import Derived.OpenShut
import Derived.JoinedCond
import Derived.Deep.DeepHandedRow
import Derived.Deep.DeepWitnessRowRef
import Derived.Lib.LaidTab
set_option linter.unusedVariables false
set_option linter.unusedSimpArgs false
set_option maxRecDepth 100000
namespace Go.Proofs.YtfhkgbimnfjfhaaGreatDoor.freshExplicit
open Go.ChangeShapes Go.WideShapes Go.ChangeAt Go.RowKit

theorem row9_set5 {w : World} {v0 v1 v2 v3 v4 v5 v6 v7 v8 u5 : Value} {t : TypeId} {b : Nat} (h : w.heap[b]? = some (.cells #[v0, v1, v2, v3, v4, v5, v6, v7, v8] t (0, 0))) :
    (w.setCell ⟨b, 5, none⟩ u5).heap[b]? = some (.cells #[v0, v1, v2, v3, v4, u5, v6, v7, v8] t (0, 0)) := by simpa using DA.heap_set h 5 u5
set_option maxRecDepth 100000
set_option maxHeartbeats 8000000 in
theorem walk (w : World) (hM : MaxL w) (sec : Int) (hi1 : -9223372036854775808 ≤ sec) (hj1 : sec ≤ 9223372036854775807) (at_ : Int) (hi2 : -9223372036854775808 ≤ at_) (hj2 : at_ ≤ 9223372036854775807) (p : Frs.Pol) (hp : p.ok) :
    Calls Tryz.prog 8 #[.int .i64 sec, .int .i64 at_, polV p] w fun x w' => x = .returned (.bool true) ∧ Below w.heap.size w w' := by
  unfold polV
  have hM0 := hM
  have hb0 := alloc_below w (.cells #[.int .i64 p.mn, .int .i64 p.pc, .int .i64 p.mx, .int .i64 p.ng] 29)
  have hr2 := heap_alloc_new w (.cells #[.int .i64 p.mn, .int .i64 p.pc, .int .i64 p.mx, .int .i64 p.ng] 29)
  have hlt0 : w.heap.size < (w.alloc (.cells #[.int .i64 p.mn, .int .i64 p.pc, .int .i64 p.mx, .int .i64 p.ng] 29)).heap.size := by simp
  go_enter Tryz.func8, Tryz.ntmps8
  go_upto_region 1 with fail
  generalize w.alloc (.cells #[.int .i64 p.mn, .int .i64 p.pc, .int .i64 p.mx, .int .i64 p.ng] 29) = w2 at *
  replace hM := maxl_b hM hb0
  go_wp2_with fail
  refine (alive16_any w2 hM).mono ?_
  rintro x w3 ⟨rfl, hb3⟩
  have hlt3 : w.heap.size < w3.heap.size := Nat.lt_of_lt_of_le hlt0 hb3.size
  replace hr2 := row_keep hr2 hb3
  replace hM := maxl_b hM hb3
  replace hb0 := bnext hb0 hb3 hb0.size
  clear hb3
  by_cases g1 : sec < 0
  · go_wp2
    go_ret
    exact ⟨rfl, hb0⟩
  by_cases g2 : 2147483648 < sec
  · go_wp2
    go_ret
    exact ⟨rfl, hb0⟩
  by_cases g3 : at_ < 0
  · go_wp2
    go_ret
    exact ⟨rfl, hb0⟩
  by_cases g4 : 68719476736 < at_
  · go_wp2
    go_ret
    exact ⟨rfl, hb0⟩
  obtain ⟨ks, hks⟩ : ∃ ks : Nat, (ks : Int) = sec := ⟨sec.toNat, by omega⟩
  subst hks
  have hdl := dec_len (k := ks) (by omega)
  have HL1 := Lib.hid (Frs.l1_life (n := ks) (by omega) 200 1000 p)
  have HF1 := Lib.hid (Frs.l1_len (n := ks) (by omega))
  have HL2 := Lib.hid (Frs.l2_life (a := at_) (s := (ks : Int)) (by omega) (by omega) (by omega) (by omega) 200 1000 p)
  have HF2 := Lib.hid (Frs.l2_len at_ (at_ + (ks : Int)))
  go_wp2_with fail
  refine (minute_any _).mono ?_
  rintro x w4 ⟨A, n, c, rfl, hF, hb4⟩
  have hlt4 : w.heap.size < w4.heap.size := Nat.lt_of_lt_of_le hlt3 hb4.size
  replace hr2 := row_keep hr2 hb4
  replace hM := maxl_b hM hb4
  replace hb0 := bnext hb0 hb4 hb0.size
  clear hb4
  go_upto_region 6 with fail
  have hal := alloc_below w4 (.cells #[.string (bs []), .string (bs []), .int .i64 200, .string (bs []), .int .i64 0, .slice A n c, .slice none 0 0, .int .i64 1000, .int .i64 1000] 27)
  have hr1 := heap_alloc_new w4 (.cells #[.string (bs []), .string (bs []), .int .i64 200, .string (bs []), .int .i64 0, .slice A n c, .slice none 0 0, .int .i64 1000, .int .i64 1000] 27)
  have hlt5 : w4.heap.size < (w4.alloc (.cells #[.string (bs []), .string (bs []), .int .i64 200, .string (bs []), .int .i64 0, .slice A n c, .slice none 0 0, .int .i64 1000, .int .i64 1000] 27)).heap.size := by simp
  replace hr2 := row_keep hr2 hal
  replace hM := maxl_b hM hal
  replace hb0 := bnext hb0 hal hb0.size
  clear hal
  generalize w4.alloc (.cells #[.string (bs []), .string (bs []), .int .i64 200, .string (bs []), .int .i64 0, .slice A n c, .slice none 0 0, .int .i64 1000, .int .i64 1000] 27) = w5 at *
  generalize w4.heap.size = g3 at *
  clear hF
  have hC := show_pos ks w5 (by omega)
  go_wp2_with fail
  refine hC.mono ?_
  rintro x w6 ⟨rfl, hb6⟩
  clear hC
  have hlt6 : g3 < w6.heap.size := Nat.lt_of_lt_of_le hlt5 hb6.size
  replace hr1 := row_keep hr1 hb6
  replace hr2 := row_keep hr2 hb6
  replace hM := maxl_b hM hb6
  replace hb0 := bnext hb0 hb6 hb0.size
  clear hb6
  obtain ⟨a0, a1, a2, a3, a4, a5, a6, a7, a8, f0, f1, f2, f3, f4, f5, f6, f7, f8⟩ := row_facts9 hr1
  go_upto_region 7 with fail
  clear a0 a1 a2 a3 a4 a5 a6 a7 a8 f0 f1 f2 f3 f4 f5 f6 f7 f8
  have hr1' := row9_set5 (u5 := .slice (some ⟨w6.heap.size, 0, none⟩) 2 2) hr1
  have hr2' := rest1 5 (.slice (some ⟨w6.heap.size, 0, none⟩) 2 2) hr2 (show w.heap.size ≠ g3 by omega)
  have hb0' := hb0.setCell (p := ⟨g3, 5, none⟩) (by show w.heap.size ≤ g3; omega) (.slice (some ⟨w6.heap.size, 0, none⟩) 2 2)
  have hsz : (w6.setCell ⟨g3, 5, none⟩ (.slice (some ⟨w6.heap.size, 0, none⟩) 2 2)).heap.size = w6.heap.size := DA.size_set _ _
  generalize w6.setCell ⟨g3, 5, none⟩ (.slice (some ⟨w6.heap.size, 0, none⟩) 2 2) = w7 at *
  clear hr1 hr2 hb0 hM
  have hF1 : RdF (w7.alloc (.cells #[.string ⟨#[69, 120, 112, 105, 114, 101, 115]⟩, .string ⟨#[120]⟩, .string ⟨#[99, 97, 99, 104, 101, 45, 99, 111, 110, 116, 114, 111, 108]⟩, .string (⟨#[109, 97, 120, 45, 97, 103, 101, 61]⟩ ++ bs (Lib.decDigits ks))] 46)) (some ⟨w6.heap.size, 0, none⟩) 2 (Frs.l1 (Lib.decDigits ks)) := rdF_lit w7 (Frs.l1 (Lib.decDigits ks)) 46 _ _ hsz.symm (by show _ = #[Value.string (bs Ctl.ExpN), Value.string (bs [120]), Value.string (bs Ctl.ccN), Value.string (bs (Frs.maT ++ Lib.decDigits ks))]; rw [← bs_append]; rfl)
  have hal := alloc_below w7 (.cells #[.string ⟨#[69, 120, 112, 105, 114, 101, 115]⟩, .string ⟨#[120]⟩, .string ⟨#[99, 97, 99, 104, 101, 45, 99, 111, 110, 116, 114, 111, 108]⟩, .string (⟨#[109, 97, 120, 45, 97, 103, 101, 61]⟩ ++ bs (Lib.decDigits ks))] 46)
  have hr1 := row_keep hr1' hal
  have hr2 := row_keep hr2' hal
  have hb0 := bnext hb0' hal hb0'.size
  generalize w7.alloc (.cells #[.string ⟨#[69, 120, 112, 105, 114, 101, 115]⟩, .string ⟨#[120]⟩, .string ⟨#[99, 97, 99, 104, 101, 45, 99, 111, 110, 116, 114, 111, 108]⟩, .string (⟨#[109, 97, 120, 45, 97, 103, 101, 61]⟩ ++ bs (Lib.decDigits ks))] 46) = w8 at *
  have hM := maxl_b hM0 hb0
  clear hal hr1' hr2' hb0' hsz
  have hC := life_any ⟨[], [], 200, [], 0, Frs.l1 (Lib.decDigits ks), [], 1000, 1000⟩ (some ⟨w6.heap.size, 0, none⟩) 2 2 none 0 0 p w8 hM hF1 (by omega) HF1.out
  unfold entV polV at hC
  dsimp only at hC
  rw [HL1.out] at hC
  obtain ⟨a0, a1, a2, a3, a4, a5, a6, a7, a8, -⟩ := row_facts9 hr1
  obtain ⟨p0, p1, p2, p3, -⟩ := row_facts4 hr2
  clear HL1 HF1
  go_wp2_with fail
  refine hC.mono ?_
  rintro x w9 ⟨rfl, hb9⟩
  clear hC hF1 a0 a1 a2 a3 a4 a5 a6 a7 a8 p0 p1 p2 p3
  replace hr1 := row_keep hr1 hb9
  replace hr2 := row_keep hr2 hb9
  replace hM := maxl_b hM hb9
  replace hb0 := bnext hb0 hb9 hb0.size
  clear hb9
  have hs1 : shw at_ = (Dt.form0 at_, 0) := by unfold shw; rw [if_pos (by omega)]
  have hs2 : shw (at_ + (ks : Int)) = (Dt.form0 (at_ + (ks : Int)), 0) := by unfold shw; rw [if_pos (by omega)]
  have hC := rshow_any at_ w9
  rw [hs1] at hC
  go_wp2_with fail
  refine hC.mono ?_
  rintro x w10 ⟨rfl, hb10⟩
  clear hC
  replace hr1 := row_keep hr1 hb10
  replace hr2 := row_keep hr2 hb10
  replace hM := maxl_b hM hb10
  replace hb0 := bnext hb0 hb10 hb0.size
  clear hb10
  have q1 : IntKind.i64.wrap (at_ + (ks : Int)) = at_ + (ks : Int) := IntWalk.i64_in _ (by omega)
  have hC := rshow_any (at_ + (ks : Int)) w10
  rw [hs2] at hC
  go_wp2_with fail
  refine hC.mono ?_
  rintro x w11 ⟨rfl, hb11⟩
  clear hC
  replace hr1 := row_keep hr1 hb11
  replace hr2 := row_keep hr2 hb11
  replace hM := maxl_b hM hb11
  replace hb0 := bnext hb0 hb11 hb0.size
  clear hb11
  have hlt11 : g3 < w11.heap.size := (Array.getElem?_eq_some_iff.1 hr1).1
  generalize hfa : Dt.form0 at_ = fa at *
  generalize hfb : Dt.form0 (at_ + (ks : Int)) = fb at *
  clear hs1 hs2 hfa hfb
  obtain ⟨a0, a1, a2, a3, a4, a5, a6, a7, a8, f0, f1, f2, f3, f4, f5, f6, f7, f8⟩ := row_facts9 hr1
  go_upto_region 11 with fail
  clear a0 a1 a2 a3 a4 a5 a6 a7 a8 f0 f1 f2 f3 f4 f5 f6 f7 f8
  have hr1' := row9_set5 (u5 := .slice (some ⟨w11.heap.size, 0, none⟩) 2 2) hr1
  have hr2' := rest1 5 (.slice (some ⟨w11.heap.size, 0, none⟩) 2 2) hr2 (show w.heap.size ≠ g3 by omega)
  have hb0' := hb0.setCell (p := ⟨g3, 5, none⟩) (by show w.heap.size ≤ g3; omega) (.slice (some ⟨w11.heap.size, 0, none⟩) 2 2)
  have hsz : (w11.setCell ⟨g3, 5, none⟩ (.slice (some ⟨w11.heap.size, 0, none⟩) 2 2)).heap.size = w11.heap.size := DA.size_set _ _
  generalize w11.setCell ⟨g3, 5, none⟩ (.slice (some ⟨w11.heap.size, 0, none⟩) 2 2) = w12 at *
  clear hr1 hr2 hb0 hM
  have hF1 : RdF (w12.alloc (.cells #[.string ⟨#[68, 97, 116, 101]⟩, .string (bs fa), .string ⟨#[69, 120, 112, 105, 114, 101, 115]⟩, .string (bs fb)] 46)) (some ⟨w11.heap.size, 0, none⟩) 2 (Frs.l2 fa fb) := rdF_lit w12 (Frs.l2 fa fb) 46 _ _ hsz.symm (by rfl)
  have hal := alloc_below w12 (.cells #[.string ⟨#[68, 97, 116, 101]⟩, .string (bs fa), .string ⟨#[69, 120, 112, 105, 114, 101, 115]⟩, .string (bs fb)] 46)
  have hr1 := row_keep hr1' hal
  have hr2 := row_keep hr2' hal
  have hb0 := bnext hb0' hal hb0'.size
  generalize w12.alloc (.cells #[.string ⟨#[68, 97, 116, 101]⟩, .string (bs fa), .string ⟨#[69, 120, 112, 105, 114, 101, 115]⟩, .string (bs fb)] 46) = w13 at *
  have hM := maxl_b hM0 hb0
  clear hal hr1' hr2' hb0' hsz
  have hC := life_any ⟨[], [], 200, [], 0, Frs.l2 fa fb, [], 1000, 1000⟩ (some ⟨w11.heap.size, 0, none⟩) 2 2 none 0 0 p w13 hM hF1 (by omega) HF2.out
  unfold entV polV at hC
  dsimp only at hC
  rw [HL2.out] at hC
  obtain ⟨a0, a1, a2, a3, a4, a5, a6, a7, a8, -⟩ := row_facts9 hr1
  obtain ⟨p0, p1, p2, p3, -⟩ := row_facts4 hr2
  clear HL2 HF2
  have q5 : ((ks : Int) == (ks : Int)) = true := by simp
  go_wp2_with fail
  refine hC.mono ?_
  rintro x w14 ⟨rfl, hb14⟩
  clear hC hF1 a0 a1 a2 a3 a4 a5 a6 a7 a8 p0 p1 p2 p3
  replace hb0 := bnext hb0 hb14 hb0.size
  go_wp2
  go_ret
  exact ⟨rfl, hb0⟩

theorem own : ownKnob Tryz.prog.godebug = none := by kernel_rfl
theorem contract (H : Type) (enc : TypeId × Value → H) (W : World) (base : Nat) (args : Array Value) (ds gs : List (DataW H)) (before : List MemPlace)
    (hval : ∀ (j : Nat) t v, Tryz.f8.params[j]? = some t → args[j]? = some v → Value.okWide Tryz.prog W .any base t v)
    (hW : DataW.Whole enc Tryz.prog Tryz.f8.params.toList Rows.freshExplicitSpec.vars false W args.toList ds gs before) (hk : Rows.uptoSmall H (ds ++ gs) = true) (hmax : MaxL W) :
    Calls Tryz.prog 8 args W fun e W' => ∃ v, e = .returned v ∧ Rows.freshExplicitSpec.post enc Tryz.prog Tryz.f8 false true false false W args v W' := by
  have hW' := hW
  obtain ⟨p, q, hA0, hV, rfl, hfz, hnd⟩ := hW
  have hA : DataW.TrodAll enc Tryz.prog W 0 (fun _ => true) true Tryz.f8.params.toList args.toList ds p := hA0
  rw [Tryz.params8] at hA hval
  obtain ⟨v0, vs0, d0, ds0, p0, q0, hargs, rfl, rfl, h0, r0⟩ := trodAll_cons hA
  obtain ⟨v1, vs1, d1, ds1, p1, q1, rfl, rfl, rfl, h1, r1⟩ := trodAll_cons r0
  obtain ⟨v2, vs2, d2, ds2, p2, q2, rfl, rfl, rfl, h2, r2⟩ := trodAll_cons r1
  obtain ⟨rfl, rfl, rfl⟩ := trodAll_nil r2
  obtain rfl : args = #[v0, v1, v2] := by cases args; simp_all
  obtain ⟨rfl, rfl⟩ := trodVars_none hV
  have hall := bulks.bound hk
  simp only [List.append_nil, Rows.uptoBulkAll] at hall
  have hb0 : Rows.uptoBulk d0 ≤ 1048576 := by omega
  have hb1 : Rows.uptoBulk d1 ≤ 1048576 := by omega
  have hb2 : Rows.uptoBulk d2 ≤ 1048576 := by omega
  clear hall
  obtain ⟨i0, rfl, hi0, hj0⟩ := opI (hval 0 3 v0 rfl rfl) h0
  obtain ⟨i1, rfl, hi1, hj1⟩ := opI (hval 1 3 v1 rfl rfl) h1
  obtain ⟨pq2, rfl, hpq2⟩ := opPol (hval 2 29 v2 rfl rfl) h2
  clear hA0
  refine (walk W hmax i0 hi0 hj0 i1 hi1 hj1 pq2 hpq2).mono fun e W' ⟨he, hg⟩ => ?_
  subst he
  exact ⟨_, rfl, post_of_below (pa := p0 ++ (p1 ++ (p2 ++ ([])))) (pv := []) hW' (fun _ _ _ => (trodAll_cons_mk (shut_bool Tryz.underlying4 _) trodAll_mk0)) (fun sp hsp => (trodAll_cons_mk (arg_stays laidOut (by kernel_rfl) (of_decide_eq_true (by kernel_rfl)) h0 hg (fun x hx => hW'.lt x (by simp [hx])) sp (fun x hx => hsp x (by simp [hx]))) (trodAll_cons_mk (arg_stays laidOut (by kernel_rfl) (of_decide_eq_true (by kernel_rfl)) h1 hg (fun x hx => hW'.lt x (by simp [hx])) sp (fun x hx => hsp x (by simp [hx]))) (trodAll_cons_mk (arg_stays laidOut (by kernel_rfl) (of_decide_eq_true (by kernel_rfl)) h2 hg (fun x hx => hW'.lt x (by simp [hx])) sp (fun x hx => hsp x (by simp [hx]))) trodAll_mk0)))) (fun _ _ => rfl) rfl
    hg (ok_one (by kernel_rfl) rfl (okWide_bool_mk Tryz.underlying4 _))⟩

/-- A world for the witness: the settled one, the listed variables holding what the program lays. -/
noncomputable def laidWorld (os : Os) : World :=
  { (World.holding Tryz.prog os ⟨#[.cells #[.string ⟨#[118, 97, 108, 117, 101, 32, 111, 117, 116, 32, 111, 102, 32, 114, 97, 110, 103, 101]⟩] 184, .cells #[.string ⟨#[105, 110, 118, 97, 108, 105, 100, 32, 115, 121, 110, 116, 97, 120]⟩] 184], #[], []⟩) with heap := ((((((((World.holding Tryz.prog os ⟨#[.cells #[.string ⟨#[118, 97, 108, 117, 101, 32, 111, 117, 116, 32, 111, 102, 32, 114, 97, 110, 103, 101]⟩] 184, .cells #[.string ⟨#[105, 110, 118, 97, 108, 105, 100, 32, 115, 121, 110, 116, 97, 120]⟩] 184], #[], []⟩).heap.modify 6 fun
      | .cells _ t frozen => .cells #[.int .u8 0, .int .u8 1, .int .u8 28, .int .u8 2, .int .u8 29, .int .u8 14, .int .u8 24, .int .u8 3, .int .u8 30, .int .u8 22, .int .u8 20, .int .u8 15, .int .u8 25, .int .u8 17, .int .u8 4, .int .u8 8, .int .u8 31, .int .u8 27, .int .u8 13, .int .u8 23, .int .u8 21, .int .u8 19, .int .u8 16, .int .u8 7, .int .u8 26, .int .u8 12, .int .u8 18, .int .u8 6, .int .u8 11, .int .u8 5, .int .u8 10, .int .u8 9] t frozen
      | o => o).modify 7 fun
      | .cells _ t frozen => .cells #[.int .u8 0, .int .u8 1, .int .u8 56, .int .u8 2, .int .u8 57, .int .u8 49, .int .u8 28, .int .u8 3, .int .u8 61, .int .u8 58, .int .u8 42, .int .u8 50, .int .u8 38, .int .u8 29, .int .u8 17, .int .u8 4, .int .u8 62, .int .u8 47, .int .u8 59, .int .u8 36, .int .u8 45, .int .u8 43, .int .u8 51, .int .u8 22, .int .u8 53, .int .u8 39, .int .u8 33, .int .u8 30, .int .u8 24, .int .u8 18, .int .u8 12, .int .u8 5, .int .u8 63, .int .u8 55, .int .u8 48, .int .u8 27, .int .u8 60, .int .u8 41, .int .u8 37, .int .u8 16, .int .u8 46, .int .u8 35, .int .u8 44, .int .u8 21, .int .u8 52, .int .u8 32, .int .u8 23, .int .u8 11, .int .u8 54, .int .u8 26, .int .u8 40, .int .u8 15, .int .u8 34, .int .u8 20, .int .u8 31, .int .u8 10, .int .u8 25, .int .u8 14, .int .u8 19, .int .u8 9, .int .u8 13, .int .u8 8, .int .u8 7, .int .u8 6] t frozen
      | o => o).modify 5 fun
      | .cells _ t frozen => .cells #[.int .u64 1, .int .u64 10, .int .u64 100, .int .u64 1000, .int .u64 10000, .int .u64 100000, .int .u64 1000000, .int .u64 10000000, .int .u64 100000000, .int .u64 1000000000, .int .u64 10000000000, .int .u64 100000000000, .int .u64 1000000000000, .int .u64 10000000000000, .int .u64 100000000000000, .int .u64 1000000000000000, .int .u64 10000000000000000, .int .u64 100000000000000000, .int .u64 1000000000000000000, .int .u64 10000000000000000000] t frozen
      | o => o).modify 2 fun
      | .cells _ t frozen => .cells #[.int .u8 128, .int .u8 191, .int .u8 160, .int .u8 191, .int .u8 128, .int .u8 159, .int .u8 144, .int .u8 191, .int .u8 128, .int .u8 143, .int .u8 0, .int .u8 0, .int .u8 0, .int .u8 0, .int .u8 0, .int .u8 0, .int .u8 0, .int .u8 0, .int .u8 0, .int .u8 0, .int .u8 0, .int .u8 0, .int .u8 0, .int .u8 0, .int .u8 0, .int .u8 0, .int .u8 0, .int .u8 0, .int .u8 0, .int .u8 0, .int .u8 0, .int .u8 0] t frozen
      | o => o).modify 4 fun
      | .cells _ t frozen => .cells #[.iface 182 (.pointer (some ⟨(World.settled Tryz.prog os).heap.size + 0, 0, none⟩))] t frozen
      | o => o).modify 3 fun
      | .cells _ t frozen => .cells #[.iface 182 (.pointer (some ⟨(World.settled Tryz.prog os).heap.size + 1, 0, none⟩))] t frozen
      | o => o).modify 1 fun
      | .cells _ t frozen => .cells (Go.Pinned.utf8FirstZ.map fun (n : Nat) => Value.int .u8 (n : Int)).toArray t frozen
      | o => o) }
theorem laid_met (os : Os) : laidMet Tryz.prog Rows.freshExplicitUptoRow.laid ((laidWorld os).forCall (fun _ _ => 0) ⟨#[], #[.int .i64 0, .int .i64 0, .agg #[.int .i64 0, .int .i64 0, .int .i64 0, .int .i64 0]], []⟩).memory :=
  laidMet_of_run' 8 (by kernel_rfl) (by kernel_rfl)

theorem reads (os : Os) {H : Type} (enc : TypeId × Value → H) : ∃ places, DataW.whole enc Tryz.prog ((laidWorld os).forCall (fun _ _ => 0) ⟨#[], #[.int .i64 0, .int .i64 0, .agg #[.int .i64 0, .int .i64 0, .int .i64 0, .int .i64 0]], []⟩).memory Tryz.f8.params.toList Rows.freshExplicitSpec.vars false #[.int .i64 0, .int .i64 0, .agg #[.int .i64 0, .int .i64 0, .int .i64 0, .int .i64 0]].toList 8 = some ([.lit (.int .i64 0), .lit (.int .i64 0), .agg [.lit (.int .i64 0), .lit (.int .i64 0), .lit (.int .i64 0), .lit (.int .i64 0)]], [], places) :=
  ⟨[], by kernel_rfl⟩

set_option maxRecDepth 100000 in
theorem liftedUpto (os : Os) (started : os.Started) (H : Type) (enc : TypeId × Value → H) (F : Stop.Interp) :
    ReturnsInHanded {} Tryz.checked os 8 .any ((Rows.OpenSpec.upto Rows.freshExplicitSpec).preRow enc Tryz.prog Tryz.f8 Rows.freshExplicitUptoRow.domain false Rows.freshExplicitUptoRow.laid) (((Rows.OpenSpec.upto Rows.freshExplicitSpec).at F).post enc Tryz.prog Tryz.f8 false true false false) := by
  obtain ⟨places, hx⟩ := reads os enc
  refine returnsInHanded_of_row (C := Tryz.checked) (s := Rows.OpenSpec.upto Rows.freshExplicitSpec) own started (by kernel_rfl) Tryz.func8
    (witness_row_atRef (enc := enc) (C := Tryz.checked) false (laidWorld os) #[.int .i64 0, .int .i64 0, .agg #[.int .i64 0, .int .i64 0, .int .i64 0, .int .i64 0]] rfl (by kernel_rfl) (by kernel_rfl) (by kernel_rfl)
      (OpenSpec.preRow_of_cond 8 hx (by kernel_rfl) (fun k hk => by cases hk; kernel_rfl) (by kernel_rfl) (laid_met os))) ?_
  intro W base args ds gs before hval hW g1 hcond g2 g3 g4 g5
  exact contract H enc W base args ds gs before hval hW (hcond _ rfl) (by first | exact maxl_of g4 | exact maxl_of g3 | exact maxl_of g2 | exact maxl_of g5 | exact maxl_of g1)

theorem saidUpto : Rows.FreshExplicitUptoSaid :=
  OpenClaim.holds_of_cond 8 Tryz.f8 rfl rfl rfl rfl rfl rfl rfl ⟨rfl, rfl, rfl, rfl, rfl⟩ rfl rfl rfl rfl rfl (by kernel_rfl) Tryz.func8 (by kernel_rfl)
    (of_decide_eq_true (by kernel_rfl)) (by unfold Func.isWrapper; first | (rw [if_pos (by decide +kernel)]; kernel_rfl) | (rw [if_neg (by decide +kernel)]; exact ⟨rfl, rfl⟩))
    (fun os started H enc _ F => by rw [OpenClaim.pre_eq_preRow]; exact liftedUpto os started H enc F)

theorem plain (f : FuncId) (fn : Func) (hf : Tryz.pinned.checked.prog.funcNamed "conduit/conduitlaw16.FreshExplicit" = some f) (hfn : Tryz.pinned.checked.prog.funcs[f]? = some fn) :
    true = Tryz.pinned.checked.prog.looks [] ∧ ∀ (j : Nat) t, fn.params[j]? = some t → Tryz.pinned.checked.prog.wantsStandIn t = false := by
  obtain rfl : f = 8 := Option.some.inj ((show Tryz.prog.funcNamed "conduit/conduitlaw16.FreshExplicit" = some 8 by kernel_rfl).symm.trans hf) |>.symm
  obtain rfl : fn = Tryz.f8 := (Option.some.inj (Tryz.func8.symm.trans hfn)).symm
  refine ⟨by kernel_rfl, fun j t ht => ?_⟩
  rw [Tryz.params8] at ht
  have hm := Array.mem_of_getElem? ht
  simp only [List.mem_toArray, List.mem_cons, List.not_mem_nil, or_false] at hm
  rcases hm with rfl | rfl | rfl
  · exact (show Tryz.prog.wantsStandIn 3 = false by kernel_rfl)
  · exact (show Tryz.prog.wantsStandIn 3 = false by kernel_rfl)
  · exact (show Tryz.prog.wantsStandIn 29 = false by kernel_rfl)

theorem proved : Rows.FreshExplicitUptoCardSaid :=
  Claim7.holds_tied_plain_at .later [] _ _ _ _ saidUpto (fun _ h => by cases h) (by kernel_rfl) (fun _ h => by cases h) freshExplicitUpto_row_tie rfl ⟨rfl, rfl⟩ (by kernel_rfl) rfl plain (by kernel_rfl)
end Go.Proofs.YtfhkgbimnfjfhaaGreatDoor.freshExplicit
