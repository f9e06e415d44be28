/- Joined texts: The law's alive: none, minute, and what they come to. The conditions stand in each line. -/
import Derived.Test.YtfhkgbimnfjfhaaGreatDoorM27
set_option linter.unusedVariables false
set_option linter.unusedSimpArgs false
namespace Go.Proofs.YtfhkgbimnfjfhaaGreatDoor
open Go.RowKit

set_option maxRecDepth 100000
theorem row_set9 {w : World} {z0 z1 z2 z3 z4 z5 z6 z7 z8 v0 v1 v2 v3 v4 v5 v6 v7 v8 : Value} {t : TypeId} {b : Nat} (h : w.heap[b]? = some (.cells #[z0, z1, z2, z3, z4, z5, z6, z7, z8] t (0, 0))) :
    (((((((((w.setCell ⟨b, 0, none⟩ v0).setCell ⟨b, 1, none⟩ v1).setCell ⟨b, 2, none⟩ v2).setCell ⟨b, 3, none⟩ v3).setCell ⟨b, 4, none⟩ v4).setCell ⟨b, 5, none⟩ v5).setCell ⟨b, 6, none⟩ v6).setCell ⟨b, 7, none⟩ v7).setCell ⟨b, 8, none⟩ v8).heap[b]? = some (.cells #[v0, v1, v2, v3, v4, v5, v6, v7, v8] t (0, 0)) := by
  have h0 : (w.setCell ⟨b, 0, none⟩ v0).heap[b]? = some (.cells #[v0, z1, z2, z3, z4, z5, z6, z7, z8] t (0, 0)) := by simpa using DA.heap_set h 0 v0
  have h1 : ((w.setCell ⟨b, 0, none⟩ v0).setCell ⟨b, 1, none⟩ v1).heap[b]? = some (.cells #[v0, v1, z2, z3, z4, z5, z6, z7, z8] t (0, 0)) := by simpa using DA.heap_set h0 1 v1
  have h2 : (((w.setCell ⟨b, 0, none⟩ v0).setCell ⟨b, 1, none⟩ v1).setCell ⟨b, 2, none⟩ v2).heap[b]? = some (.cells #[v0, v1, v2, z3, z4, z5, z6, z7, z8] t (0, 0)) := by simpa using DA.heap_set h1 2 v2
  have h3 : ((((w.setCell ⟨b, 0, none⟩ v0).setCell ⟨b, 1, none⟩ v1).setCell ⟨b, 2, none⟩ v2).setCell ⟨b, 3, none⟩ v3).heap[b]? = some (.cells #[v0, v1, v2, v3, z4, z5, z6, z7, z8] t (0, 0)) := by simpa using DA.heap_set h2 3 v3
  have h4 : (((((w.setCell ⟨b, 0, none⟩ v0).setCell ⟨b, 1, none⟩ v1).setCell ⟨b, 2, none⟩ v2).setCell ⟨b, 3, none⟩ v3).setCell ⟨b, 4, none⟩ v4).heap[b]? = some (.cells #[v0, v1, v2, v3, v4, z5, z6, z7, z8] t (0, 0)) := by simpa using DA.heap_set h3 4 v4
  have h5 : ((((((w.setCell ⟨b, 0, none⟩ v0).setCell ⟨b, 1, none⟩ v1).setCell ⟨b, 2, none⟩ v2).setCell ⟨b, 3, none⟩ v3).setCell ⟨b, 4, none⟩ v4).setCell ⟨b, 5, none⟩ v5).heap[b]? = some (.cells #[v0, v1, v2, v3, v4, v5, z6, z7, z8] t (0, 0)) := by simpa using DA.heap_set h4 5 v5
  have h6 : (((((((w.setCell ⟨b, 0, none⟩ v0).setCell ⟨b, 1, none⟩ v1).setCell ⟨b, 2, none⟩ v2).setCell ⟨b, 3, none⟩ v3).setCell ⟨b, 4, none⟩ v4).setCell ⟨b, 5, none⟩ v5).setCell ⟨b, 6, none⟩ v6).heap[b]? = some (.cells #[v0, v1, v2, v3, v4, v5, v6, z7, z8] t (0, 0)) := by simpa using DA.heap_set h5 6 v6
  have h7 : ((((((((w.setCell ⟨b, 0, none⟩ v0).setCell ⟨b, 1, none⟩ v1).setCell ⟨b, 2, none⟩ v2).setCell ⟨b, 3, none⟩ v3).setCell ⟨b, 4, none⟩ v4).setCell ⟨b, 5, none⟩ v5).setCell ⟨b, 6, none⟩ v6).setCell ⟨b, 7, none⟩ v7).heap[b]? = some (.cells #[v0, v1, v2, v3, v4, v5, v6, v7, z8] t (0, 0)) := by simpa using DA.heap_set h6 7 v7
  have h8 : (((((((((w.setCell ⟨b, 0, none⟩ v0).setCell ⟨b, 1, none⟩ v1).setCell ⟨b, 2, none⟩ v2).setCell ⟨b, 3, none⟩ v3).setCell ⟨b, 4, none⟩ v4).setCell ⟨b, 5, none⟩ v5).setCell ⟨b, 6, none⟩ v6).setCell ⟨b, 7, none⟩ v7).setCell ⟨b, 8, none⟩ v8).heap[b]? = some (.cells #[v0, v1, v2, v3, v4, v5, v6, v7, v8] t (0, 0)) := by simpa using DA.heap_set h7 8 v8
  exact h8
theorem RdF.set {w : World} {A : Option Addr} {n : Nat} {l : List Fld} (h : RdF w A n l) {b o : Nat} {v : Value} (hA : ∀ g o', A = some ⟨g, o', none⟩ → g ≠ b) : RdF (w.setCell ⟨b, o, none⟩ v) A n l :=
  ⟨h.1, h.2.same (by rw [DA.size_set]; exact Nat.le_refl _) (fun g o' e => DA.heap_rest (hA g o' e) _ _)⟩
namespace Frs
abbrev minF : List Fld := [([67, 97, 99, 104, 101, 45, 67, 111, 110, 116, 114, 111, 108], [109, 97, 120, 45, 97, 103, 101, 61, 54, 48])]
abbrev minE : Ent := ⟨[], [], 200, [], 0, minF, [], 1000, 1000⟩
abbrev noneC : Ctl.Ct := ⟨false, false, false, false, false, false, -1, -1, -1, -1⟩
abbrev zeroP : Pol := ⟨0, 0, 0, 0⟩
theorem min_len : FlenS minF := by
  intro f hf
  simp only [minF, List.mem_cons, List.not_mem_nil, or_false] at hf
  subst hf; decide
theorem al_age : ageL minF 1000 1000 1030 = 30 := by decide +kernel
theorem al_life : lifeL minF 200 1000 zeroP = 60 := by decide +kernel
theorem al_j1 : judgeL noneC minF 200 1000 1000 zeroP 1030 = 0 := by decide +kernel
theorem al_j2 : judgeL noneC minF 200 1000 1000 zeroP 1060 = 2 := by decide +kernel
end Frs
set_option maxHeartbeats 1000000 in
theorem none_any (w : World) : Calls Tryz.prog 23 #[] w fun x w' => x = .returned (.agg #[.bool false, .bool false, .bool false, .bool false, .bool false, .bool false, .int .i64 (-1), .int .i64 (-1), .int .i64 (-1), .int .i64 (-1)]) ∧ Below w.heap.size w w' := by
  have hal := alloc_below w (.cells #[.bool false, .bool false, .bool false, .bool false, .bool false, .bool false, .int .i64 0, .int .i64 0, .int .i64 0, .int .i64 0] 37)
  have hr := heap_alloc_new w (.cells #[.bool false, .bool false, .bool false, .bool false, .bool false, .bool false, .int .i64 0, .int .i64 0, .int .i64 0, .int .i64 0] 37)
  go_enter Tryz.func23, Tryz.ntmps23
  go_upto_region 1 with fail
  generalize w.alloc (.cells #[.bool false, .bool false, .bool false, .bool false, .bool false, .bool false, .int .i64 0, .int .i64 0, .int .i64 0, .int .i64 0] 37) = w2 at *
  obtain ⟨c0, c1, c2, c3, c4, c5, c6, c7, c8, c9, f0, f1, f2, f3, f4, f5, f6, f7, f8, f9⟩ := row_facts10 hr
  clear hr
  go_wp2
  refine bodyPost_ret (v := .agg #[.bool false, .bool false, .bool false, .bool false, .bool false, .bool false, .int .i64 (-1), .int .i64 (-1), .int .i64 (-1), .int .i64 (-1)]) (by simp [results, Tryz.results23, go_sem, c0, c1, c2, c3, c4, c5, c6, c7, c8, c9]) rfl ⟨rfl, ((((((((((hal.setCell (by simp) _).setCell (by simp) _).setCell (by simp) _).setCell (by simp) _).setCell (by simp) _).setCell (by simp) _).setCell (by simp) _).setCell (by simp) _).setCell (by simp) _).setCell (by simp) _)⟩
set_option maxHeartbeats 1000000 in
theorem minute_any (w : World) : Calls Tryz.prog 20 #[] w fun x w' => ∃ A n c, x = .returned (.agg #[.string (bs []), .string (bs []), .int .i64 200, .string (bs []), .int .i64 0, .slice A n c, .slice none 0 0, .int .i64 1000, .int .i64 1000]) ∧ RdF w' A n Frs.minF ∧ Below w.heap.size w w' := by
  have hal := alloc_below w (.cells #[.string ⟨#[]⟩, .string ⟨#[]⟩, .int .i64 0, .string ⟨#[]⟩, .int .i64 0, .slice none 0 0, .slice none 0 0, .int .i64 0, .int .i64 0] 27)
  have hr := heap_alloc_new w (.cells #[.string ⟨#[]⟩, .string ⟨#[]⟩, .int .i64 0, .string ⟨#[]⟩, .int .i64 0, .slice none 0 0, .slice none 0 0, .int .i64 0, .int .i64 0] 27)
  have hlt : w.heap.size < (w.alloc (.cells #[.string ⟨#[]⟩, .string ⟨#[]⟩, .int .i64 0, .string ⟨#[]⟩, .int .i64 0, .slice none 0 0, .slice none 0 0, .int .i64 0, .int .i64 0] 27)).heap.size := by simp
  go_enter Tryz.func20, Tryz.ntmps20
  go_upto_region 1 with fail
  generalize w.alloc (.cells #[.string ⟨#[]⟩, .string ⟨#[]⟩, .int .i64 0, .string ⟨#[]⟩, .int .i64 0, .slice none 0 0, .slice none 0 0, .int .i64 0, .int .i64 0] 27) = w2 at *
  obtain ⟨a0, a1, a2, a3, a4, a5, a6, a7, a8, f0, f1, f2, f3, f4, f5, f6, f7, f8⟩ := row_facts9 hr
  have hr3 := row_set9 (v0 := .string ⟨#[]⟩) (v1 := .string ⟨#[]⟩) (v2 := .int .i64 200) (v3 := .string ⟨#[]⟩) (v4 := .int .i64 0) (v5 := .slice (some ⟨w2.heap.size, 0, none⟩) 1 1) (v6 := .slice none 0 0) (v7 := .int .i64 1000) (v8 := .int .i64 1000) hr
  have hbB := (((((((((hal.setCell (p := ⟨w.heap.size, 0, none⟩) (by simp) (.string ⟨#[]⟩)).setCell (p := ⟨w.heap.size, 1, none⟩) (by simp) (.string ⟨#[]⟩)).setCell (p := ⟨w.heap.size, 2, none⟩) (by simp) (.int .i64 200)).setCell (p := ⟨w.heap.size, 3, none⟩) (by simp) (.string ⟨#[]⟩)).setCell (p := ⟨w.heap.size, 4, none⟩) (by simp) (.int .i64 0)).setCell (p := ⟨w.heap.size, 5, none⟩) (by simp) (.slice (some ⟨w2.heap.size, 0, none⟩) 1 1)).setCell (p := ⟨w.heap.size, 6, none⟩) (by simp) (.slice none 0 0)).setCell (p := ⟨w.heap.size, 7, none⟩) (by simp) (.int .i64 1000)).setCell (p := ⟨w.heap.size, 8, none⟩) (by simp) (.int .i64 1000))
  have hsz : ((((((((((w2.setCell ⟨w.heap.size, 0, none⟩ (.string ⟨#[]⟩)).setCell ⟨w.heap.size, 1, none⟩ (.string ⟨#[]⟩)).setCell ⟨w.heap.size, 2, none⟩ (.int .i64 200)).setCell ⟨w.heap.size, 3, none⟩ (.string ⟨#[]⟩)).setCell ⟨w.heap.size, 4, none⟩ (.int .i64 0)).setCell ⟨w.heap.size, 5, none⟩ (.slice (some ⟨w2.heap.size, 0, none⟩) 1 1)).setCell ⟨w.heap.size, 6, none⟩ (.slice none 0 0)).setCell ⟨w.heap.size, 7, none⟩ (.int .i64 1000)).setCell ⟨w.heap.size, 8, none⟩ (.int .i64 1000))).heap.size = w2.heap.size := by simp only [DA.size_set]
  clear hr
  go_wp2
  clear a0 a1 a2 a3 a4 a5 a6 a7 a8 f0 f1 f2 f3 f4 f5 f6 f7 f8
  generalize (((((((((w2.setCell ⟨w.heap.size, 0, none⟩ (.string ⟨#[]⟩)).setCell ⟨w.heap.size, 1, none⟩ (.string ⟨#[]⟩)).setCell ⟨w.heap.size, 2, none⟩ (.int .i64 200)).setCell ⟨w.heap.size, 3, none⟩ (.string ⟨#[]⟩)).setCell ⟨w.heap.size, 4, none⟩ (.int .i64 0)).setCell ⟨w.heap.size, 5, none⟩ (.slice (some ⟨w2.heap.size, 0, none⟩) 1 1)).setCell ⟨w.heap.size, 6, none⟩ (.slice none 0 0)).setCell ⟨w.heap.size, 7, none⟩ (.int .i64 1000)).setCell ⟨w.heap.size, 8, none⟩ (.int .i64 1000)) = w3 at *
  have hF : RdF (w3.alloc (.cells #[.string ⟨#[67, 97, 99, 104, 101, 45, 67, 111, 110, 116, 114, 111, 108]⟩, .string ⟨#[109, 97, 120, 45, 97, 103, 101, 61, 54, 48]⟩] 46)) (some ⟨w2.heap.size, 0, none⟩) 1 Frs.minF := rdF_lit w3 Frs.minF 46 _ _ hsz.symm rfl
  have hal3 := alloc_below w3 (.cells #[.string ⟨#[67, 97, 99, 104, 101, 45, 67, 111, 110, 116, 114, 111, 108]⟩, .string ⟨#[109, 97, 120, 45, 97, 103, 101, 61, 54, 48]⟩] 46)
  replace hr3 := row_keep hr3 hal3
  replace hbB := bnext hbB hal3 hbB.size
  generalize w3.alloc (.cells #[.string ⟨#[67, 97, 99, 104, 101, 45, 67, 111, 110, 116, 114, 111, 108]⟩, .string ⟨#[109, 97, 120, 45, 97, 103, 101, 61, 54, 48]⟩] 46) = w4 at *
  obtain ⟨a0, a1, a2, a3, a4, a5, a6, a7, a8, -⟩ := row_facts9 hr3
  refine bodyPost_ret (v := .agg #[.string (bs []), .string (bs []), .int .i64 200, .string (bs []), .int .i64 0, .slice (some ⟨w2.heap.size, 0, none⟩) 1 1, .slice none 0 0, .int .i64 1000, .int .i64 1000]) (by simp [results, Tryz.results20, go_sem, a0, a1, a2, a3, a4, a5, a6, a7, a8, bs]) rfl ⟨_, _, _, rfl, hF, hbB⟩
theorem ctV_none : ctV Frs.noneC = .agg #[.bool false, .bool false, .bool false, .bool false, .bool false, .bool false, .int .i64 (-1), .int .i64 (-1), .int .i64 (-1), .int .i64 (-1)] := rfl
set_option maxHeartbeats 4000000 in
theorem alive16_any (w : World) (hM : MaxL w) : Calls Tryz.prog 9 #[] w fun x w' => x = .returned (.bool true) ∧ Below w.heap.size w w' := by
  go_enter Tryz.func9, Tryz.ntmps9
  go_wp2_with fail
  refine (minute_any _).mono ?_
  rintro x w3 ⟨A, n, c, rfl, hF, hb3⟩
  go_upto_region 2 with fail
  have hal := alloc_below w3 (.cells #[.string (bs []), .string (bs []), .int .i64 200, .string (bs []), .int .i64 0, .slice A n c, .slice none 0 0, .int .i64 1000, .int .i64 1000] 27)
  have hr1 := heap_alloc_new w3 (.cells #[.string (bs []), .string (bs []), .int .i64 200, .string (bs []), .int .i64 0, .slice A n c, .slice none 0 0, .int .i64 1000, .int .i64 1000] 27)
  have hb0 := bnext hb3 hal hb3.size
  have hF2 := hF.step hal
  have hM2 := maxl_b hM hb0
  clear hb3 hF hM
  generalize w3.alloc (.cells #[.string (bs []), .string (bs []), .int .i64 200, .string (bs []), .int .i64 0, .slice A n c, .slice none 0 0, .int .i64 1000, .int .i64 1000] 27) = w4 at *
  generalize w3.heap.size = g3 at *
  clear hal
  have hn : n ≤ 1048576 := by have := hF2.1; simp at this; omega
  have HA : Hid (∀ W, Below w4.heap.size w4 W → Calls Tryz.prog 13 #[.agg #[.string (bs []), .string (bs []), .int .i64 200, .string (bs []), .int .i64 0, .slice A n c, .slice none 0 0, .int .i64 1000, .int .i64 1000], .int .i64 1030] W fun x w' => x = .returned (.int .i64 30) ∧ Below W.heap.size W w') := Lib.hid fun W hb => by
    have h := age_any Frs.minE A n c none 0 0 1030 W (hF2.step hb) hn Frs.min_len
    rw [Frs.al_age] at h
    exact h
  have HL : Hid (∀ W, Below w4.heap.size w4 W → Calls Tryz.prog 11 #[.agg #[.string (bs []), .string (bs []), .int .i64 200, .string (bs []), .int .i64 0, .slice A n c, .slice none 0 0, .int .i64 1000, .int .i64 1000], .agg #[.int .i64 0, .int .i64 0, .int .i64 0, .int .i64 0]] W fun x w' => x = .returned (.int .i64 60) ∧ Below W.heap.size W w') := Lib.hid fun W hb => by
    have h := life_any Frs.minE A n c none 0 0 Frs.zeroP W (maxl_b hM2 hb) (hF2.step hb) hn Frs.min_len
    rw [Frs.al_life] at h
    exact h
  have HJ1 : Hid (∀ W, Below w4.heap.size w4 W → Calls Tryz.prog 16 #[.agg #[.bool false, .bool false, .bool false, .bool false, .bool false, .bool false, .int .i64 (-1), .int .i64 (-1), .int .i64 (-1), .int .i64 (-1)], .agg #[.string (bs []), .string (bs []), .int .i64 200, .string (bs []), .int .i64 0, .slice A n c, .slice none 0 0, .int .i64 1000, .int .i64 1000], .agg #[.int .i64 0, .int .i64 0, .int .i64 0, .int .i64 0], .int .i64 1030] W fun x w' => x = .returned (.int .i64 0) ∧ Below W.heap.size W w') := Lib.hid fun W hb => by
    have h := judge_any Frs.noneC Frs.minE A n c none 0 0 Frs.zeroP 1030 W (maxl_b hM2 hb) (hF2.step hb) hn Frs.min_len
    rw [Frs.al_j1] at h
    exact h
  have HJ2 : Hid (∀ W, Below w4.heap.size w4 W → Calls Tryz.prog 16 #[.agg #[.bool false, .bool false, .bool false, .bool false, .bool false, .bool false, .int .i64 (-1), .int .i64 (-1), .int .i64 (-1), .int .i64 (-1)], .agg #[.string (bs []), .string (bs []), .int .i64 200, .string (bs []), .int .i64 0, .slice A n c, .slice none 0 0, .int .i64 1000, .int .i64 1000], .agg #[.int .i64 0, .int .i64 0, .int .i64 0, .int .i64 0], .int .i64 1060] W fun x w' => x = .returned (.int .i64 2) ∧ Below W.heap.size W w') := Lib.hid fun W hb => by
    have h := judge_any Frs.noneC Frs.minE A n c none 0 0 Frs.zeroP 1060 W (maxl_b hM2 hb) (hF2.step hb) hn Frs.min_len
    rw [Frs.al_j2] at h
    exact h
  have HN := Lib.hid none_any
  refine wp_region_detN (n := 26) (S := fun L W => Below w4.heap.size w4 W) (by kernel_rfl) rfl (below_drewN (Below.refl _ _) 1) ?_
  refine' DetS.takeL (i := 0) (v := _) rfl (by kernel_rfl) (by kernel_rfl) (by kernel_rfl) (YS.pure rfl ?sd2_0 ?rd2_0) ?nd2_0
  case rd2_0 => intro L W hS; obtain ⟨k0, k1, k2, k3, k4, k5, k6, k7, k8, -⟩ := row_facts9 (row_keep hr1 hS); go_simp; first | rfl | (rw [if_neg (by omega)] <;> rfl) | (rw [if_neg (by simp; omega)] <;> rfl) | (rw [if_neg (by simp)] <;> rfl)
  case sd2_0 => exact fun L W _ h => h
  simp only [Act.put, List.setIfInBounds_toArray, List.set_cons_zero, List.set_cons_succ]
  refine' DetS.takeL (i := 1) (v := _) rfl (by kernel_rfl) (by kernel_rfl) (by kernel_rfl) (YS.call (f := _) (args := _) rfl ?rd2_1 ?cd2_1) ?nd2_1
  case rd2_1 => intro W; go_simp; constructor <;> rfl
  case cd2_1 =>
    intro L W hL hS
    refine (HA.out W hS).mono ?_
    rintro e9 w9 ⟨rfl, hb9⟩
    exact ⟨by rfl, bnext hS hb9 hS.size⟩
  simp only [Act.put, List.setIfInBounds_toArray, List.set_cons_zero, List.set_cons_succ]
  refine' DetS.takeL (i := 2) (v := _) rfl (by kernel_rfl) (by kernel_rfl) (by kernel_rfl) (YS.pure rfl ?sd2_2 ?rd2_2) ?nd2_2
  case rd2_2 => intro L W hS; obtain ⟨k0, k1, k2, k3, k4, k5, k6, k7, k8, -⟩ := row_facts9 (row_keep hr1 hS); go_simp; first | rfl | (rw [if_neg (by omega)] <;> rfl) | (rw [if_neg (by simp; omega)] <;> rfl) | (rw [if_neg (by simp)] <;> rfl)
  case sd2_2 => exact fun L W _ h => h
  simp only [Act.put, List.setIfInBounds_toArray, List.set_cons_zero, List.set_cons_succ]
  refine' DetS.takeL (i := 3) (v := _) rfl (by kernel_rfl) (by kernel_rfl) (by kernel_rfl) (YS.pure rfl ?sd2_3 ?rd2_3) ?nd2_3
  case rd2_3 => intro L W hS; obtain ⟨k0, k1, k2, k3, k4, k5, k6, k7, k8, -⟩ := row_facts9 (row_keep hr1 hS); go_simp; first | rfl | (rw [if_neg (by omega)] <;> rfl) | (rw [if_neg (by simp; omega)] <;> rfl) | (rw [if_neg (by simp)] <;> rfl)
  case sd2_3 => exact fun L W _ h => h
  simp only [Act.put, List.setIfInBounds_toArray, List.set_cons_zero, List.set_cons_succ]
  refine' DetS.takeL (i := 4) (v := _) rfl (by kernel_rfl) (by kernel_rfl) (by kernel_rfl) (YS.pure rfl ?sd2_4 ?rd2_4) ?nd2_4
  case rd2_4 => intro L W hS; obtain ⟨k0, k1, k2, k3, k4, k5, k6, k7, k8, -⟩ := row_facts9 (row_keep hr1 hS); go_simp; first | rfl | (rw [if_neg (by omega)] <;> rfl) | (rw [if_neg (by simp; omega)] <;> rfl) | (rw [if_neg (by simp)] <;> rfl)
  case sd2_4 => exact fun L W _ h => h
  simp only [Act.put, List.setIfInBounds_toArray, List.set_cons_zero, List.set_cons_succ]
  refine' DetS.takeL (i := 5) (v := _) rfl (by kernel_rfl) (by kernel_rfl) (by kernel_rfl) (YS.pure rfl ?sd2_5 ?rd2_5) ?nd2_5
  case rd2_5 => intro L W hS; obtain ⟨k0, k1, k2, k3, k4, k5, k6, k7, k8, -⟩ := row_facts9 (row_keep hr1 hS); go_simp; first | rfl | (rw [if_neg (by omega)] <;> rfl) | (rw [if_neg (by simp; omega)] <;> rfl) | (rw [if_neg (by simp)] <;> rfl)
  case sd2_5 => exact fun L W _ h => h
  simp only [Act.put, List.setIfInBounds_toArray, List.set_cons_zero, List.set_cons_succ]
  refine' DetS.takeL (i := 6) (v := _) rfl (by kernel_rfl) (by kernel_rfl) (by kernel_rfl) (YS.call (f := _) (args := _) rfl ?rd2_6 ?cd2_6) ?nd2_6
  case rd2_6 => intro W; go_simp; constructor <;> rfl
  case cd2_6 =>
    intro L W hL hS
    refine (HL.out W hS).mono ?_
    rintro e9 w9 ⟨rfl, hb9⟩
    exact ⟨by rfl, bnext hS hb9 hS.size⟩
  simp only [Act.put, List.setIfInBounds_toArray, List.set_cons_zero, List.set_cons_succ]
  refine' DetS.takeL (i := 7) (v := _) rfl (by kernel_rfl) (by kernel_rfl) (by kernel_rfl) (YS.pure rfl ?sd2_7 ?rd2_7) ?nd2_7
  case rd2_7 => intro L W hS; obtain ⟨k0, k1, k2, k3, k4, k5, k6, k7, k8, -⟩ := row_facts9 (row_keep hr1 hS); go_simp; first | rfl | (rw [if_neg (by omega)] <;> rfl) | (rw [if_neg (by simp; omega)] <;> rfl) | (rw [if_neg (by simp)] <;> rfl)
  case sd2_7 => exact fun L W _ h => h
  simp only [Act.put, List.setIfInBounds_toArray, List.set_cons_zero, List.set_cons_succ]
  refine' DetS.takeL (i := 8) (v := _) rfl (by kernel_rfl) (by kernel_rfl) (by kernel_rfl) (YS.pure rfl ?sd2_8 ?rd2_8) ?nd2_8
  case rd2_8 => intro L W hS; obtain ⟨k0, k1, k2, k3, k4, k5, k6, k7, k8, -⟩ := row_facts9 (row_keep hr1 hS); go_simp; first | rfl | (rw [if_neg (by omega)] <;> rfl) | (rw [if_neg (by simp; omega)] <;> rfl) | (rw [if_neg (by simp)] <;> rfl)
  case sd2_8 => exact fun L W _ h => h
  simp only [Act.put, List.setIfInBounds_toArray, List.set_cons_zero, List.set_cons_succ]
  refine' DetS.takeL (i := 9) (v := _) rfl (by kernel_rfl) (by kernel_rfl) (by kernel_rfl) (YS.pure rfl ?sd2_9 ?rd2_9) ?nd2_9
  case rd2_9 => intro L W hS; obtain ⟨k0, k1, k2, k3, k4, k5, k6, k7, k8, -⟩ := row_facts9 (row_keep hr1 hS); go_simp; first | rfl | (rw [if_neg (by omega)] <;> rfl) | (rw [if_neg (by simp; omega)] <;> rfl) | (rw [if_neg (by simp)] <;> rfl)
  case sd2_9 => exact fun L W _ h => h
  simp only [Act.put, List.setIfInBounds_toArray, List.set_cons_zero, List.set_cons_succ]
  refine' DetS.takeL (i := 10) (v := _) rfl (by kernel_rfl) (by kernel_rfl) (by kernel_rfl) (YS.call (f := _) (args := _) rfl ?rd2_10 ?cd2_10) ?nd2_10
  case rd2_10 => intro W; go_simp; constructor <;> rfl
  case cd2_10 =>
    intro L W hL hS
    refine (HN.out W).mono ?_
    rintro e9 w9 ⟨rfl, hb9⟩
    exact ⟨by rfl, bnext hS hb9 hS.size⟩
  simp only [Act.put, List.setIfInBounds_toArray, List.set_cons_zero, List.set_cons_succ]
  refine' DetS.takeL (i := 11) (v := _) rfl (by kernel_rfl) (by kernel_rfl) (by kernel_rfl) (YS.pure rfl ?sd2_11 ?rd2_11) ?nd2_11
  case rd2_11 => intro L W hS; obtain ⟨k0, k1, k2, k3, k4, k5, k6, k7, k8, -⟩ := row_facts9 (row_keep hr1 hS); go_simp; first | rfl | (rw [if_neg (by omega)] <;> rfl) | (rw [if_neg (by simp; omega)] <;> rfl) | (rw [if_neg (by simp)] <;> rfl)
  case sd2_11 => exact fun L W _ h => h
  simp only [Act.put, List.setIfInBounds_toArray, List.set_cons_zero, List.set_cons_succ]
  refine' DetS.takeL (i := 12) (v := _) rfl (by kernel_rfl) (by kernel_rfl) (by kernel_rfl) (YS.pure rfl ?sd2_12 ?rd2_12) ?nd2_12
  case rd2_12 => intro L W hS; obtain ⟨k0, k1, k2, k3, k4, k5, k6, k7, k8, -⟩ := row_facts9 (row_keep hr1 hS); go_simp; first | rfl | (rw [if_neg (by omega)] <;> rfl) | (rw [if_neg (by simp; omega)] <;> rfl) | (rw [if_neg (by simp)] <;> rfl)
  case sd2_12 => exact fun L W _ h => h
  simp only [Act.put, List.setIfInBounds_toArray, List.set_cons_zero, List.set_cons_succ]
  refine' DetS.takeL (i := 13) (v := _) rfl (by kernel_rfl) (by kernel_rfl) (by kernel_rfl) (YS.call (f := _) (args := _) rfl ?rd2_13 ?cd2_13) ?nd2_13
  case rd2_13 => intro W; go_simp; constructor <;> rfl
  case cd2_13 =>
    intro L W hL hS
    refine (HJ1.out W hS).mono ?_
    rintro e9 w9 ⟨rfl, hb9⟩
    exact ⟨by rfl, bnext hS hb9 hS.size⟩
  simp only [Act.put, List.setIfInBounds_toArray, List.set_cons_zero, List.set_cons_succ]
  refine' DetS.takeL (i := 14) (v := _) rfl (by kernel_rfl) (by kernel_rfl) (by kernel_rfl) (YS.pure rfl ?sd2_14 ?rd2_14) ?nd2_14
  case rd2_14 => intro L W hS; obtain ⟨k0, k1, k2, k3, k4, k5, k6, k7, k8, -⟩ := row_facts9 (row_keep hr1 hS); go_simp; first | rfl | (rw [if_neg (by omega)] <;> rfl) | (rw [if_neg (by simp; omega)] <;> rfl) | (rw [if_neg (by simp)] <;> rfl)
  case sd2_14 => exact fun L W _ h => h
  simp only [Act.put, List.setIfInBounds_toArray, List.set_cons_zero, List.set_cons_succ]
  refine' DetS.takeL (i := 15) (v := _) rfl (by kernel_rfl) (by kernel_rfl) (by kernel_rfl) (YS.pure rfl ?sd2_15 ?rd2_15) ?nd2_15
  case rd2_15 => intro L W hS; obtain ⟨k0, k1, k2, k3, k4, k5, k6, k7, k8, -⟩ := row_facts9 (row_keep hr1 hS); go_simp; first | rfl | (rw [if_neg (by omega)] <;> rfl) | (rw [if_neg (by simp; omega)] <;> rfl) | (rw [if_neg (by simp)] <;> rfl)
  case sd2_15 => exact fun L W _ h => h
  simp only [Act.put, List.setIfInBounds_toArray, List.set_cons_zero, List.set_cons_succ]
  refine' DetS.takeL (i := 16) (v := _) rfl (by kernel_rfl) (by kernel_rfl) (by kernel_rfl) (YS.pure rfl ?sd2_16 ?rd2_16) ?nd2_16
  case rd2_16 => intro L W hS; obtain ⟨k0, k1, k2, k3, k4, k5, k6, k7, k8, -⟩ := row_facts9 (row_keep hr1 hS); go_simp; first | rfl | (rw [if_neg (by omega)] <;> rfl) | (rw [if_neg (by simp; omega)] <;> rfl) | (rw [if_neg (by simp)] <;> rfl)
  case sd2_16 => exact fun L W _ h => h
  simp only [Act.put, List.setIfInBounds_toArray, List.set_cons_zero, List.set_cons_succ]
  refine' DetS.takeL (i := 17) (v := _) rfl (by kernel_rfl) (by kernel_rfl) (by kernel_rfl) (YS.call (f := _) (args := _) rfl ?rd2_17 ?cd2_17) ?nd2_17
  case rd2_17 => intro W; go_simp; constructor <;> rfl
  case cd2_17 =>
    intro L W hL hS
    refine (HN.out W).mono ?_
    rintro e9 w9 ⟨rfl, hb9⟩
    exact ⟨by rfl, bnext hS hb9 hS.size⟩
  simp only [Act.put, List.setIfInBounds_toArray, List.set_cons_zero, List.set_cons_succ]
  refine' DetS.takeL (i := 18) (v := _) rfl (by kernel_rfl) (by kernel_rfl) (by kernel_rfl) (YS.pure rfl ?sd2_18 ?rd2_18) ?nd2_18
  case rd2_18 => intro L W hS; obtain ⟨k0, k1, k2, k3, k4, k5, k6, k7, k8, -⟩ := row_facts9 (row_keep hr1 hS); go_simp; first | rfl | (rw [if_neg (by omega)] <;> rfl) | (rw [if_neg (by simp; omega)] <;> rfl) | (rw [if_neg (by simp)] <;> rfl)
  case sd2_18 => exact fun L W _ h => h
  simp only [Act.put, List.setIfInBounds_toArray, List.set_cons_zero, List.set_cons_succ]
  refine' DetS.takeL (i := 19) (v := _) rfl (by kernel_rfl) (by kernel_rfl) (by kernel_rfl) (YS.pure rfl ?sd2_19 ?rd2_19) ?nd2_19
  case rd2_19 => intro L W hS; obtain ⟨k0, k1, k2, k3, k4, k5, k6, k7, k8, -⟩ := row_facts9 (row_keep hr1 hS); go_simp; first | rfl | (rw [if_neg (by omega)] <;> rfl) | (rw [if_neg (by simp; omega)] <;> rfl) | (rw [if_neg (by simp)] <;> rfl)
  case sd2_19 => exact fun L W _ h => h
  simp only [Act.put, List.setIfInBounds_toArray, List.set_cons_zero, List.set_cons_succ]
  refine' DetS.takeL (i := 20) (v := _) rfl (by kernel_rfl) (by kernel_rfl) (by kernel_rfl) (YS.call (f := _) (args := _) rfl ?rd2_20 ?cd2_20) ?nd2_20
  case rd2_20 => intro W; go_simp; constructor <;> rfl
  case cd2_20 =>
    intro L W hL hS
    refine (HJ2.out W hS).mono ?_
    rintro e9 w9 ⟨rfl, hb9⟩
    exact ⟨by rfl, bnext hS hb9 hS.size⟩
  simp only [Act.put, List.setIfInBounds_toArray, List.set_cons_zero, List.set_cons_succ]
  refine' DetS.takeL (i := 21) (v := _) rfl (by kernel_rfl) (by kernel_rfl) (by kernel_rfl) (YS.pure rfl ?sd2_21 ?rd2_21) ?nd2_21
  case rd2_21 => intro L W hS; obtain ⟨k0, k1, k2, k3, k4, k5, k6, k7, k8, -⟩ := row_facts9 (row_keep hr1 hS); go_simp; first | rfl | (rw [if_neg (by omega)] <;> rfl) | (rw [if_neg (by simp; omega)] <;> rfl) | (rw [if_neg (by simp)] <;> rfl)
  case sd2_21 => exact fun L W _ h => h
  simp only [Act.put, List.setIfInBounds_toArray, List.set_cons_zero, List.set_cons_succ]
  refine' DetS.takeL (i := 22) (v := _) rfl (by kernel_rfl) (by kernel_rfl) (by kernel_rfl) (YS.pure rfl ?sd2_22 ?rd2_22) ?nd2_22
  case rd2_22 => intro L W hS; obtain ⟨k0, k1, k2, k3, k4, k5, k6, k7, k8, -⟩ := row_facts9 (row_keep hr1 hS); go_simp; first | rfl | (rw [if_neg (by omega)] <;> rfl) | (rw [if_neg (by simp; omega)] <;> rfl) | (rw [if_neg (by simp)] <;> rfl)
  case sd2_22 => exact fun L W _ h => h
  simp only [Act.put, List.setIfInBounds_toArray, List.set_cons_zero, List.set_cons_succ]
  refine' DetS.takeL (i := 23) (v := _) rfl (by kernel_rfl) (by kernel_rfl) (by kernel_rfl) (YS.pure rfl ?sd2_23 ?rd2_23) ?nd2_23
  case rd2_23 => intro L W hS; obtain ⟨k0, k1, k2, k3, k4, k5, k6, k7, k8, -⟩ := row_facts9 (row_keep hr1 hS); go_simp; first | rfl | (rw [if_neg (by omega)] <;> rfl) | (rw [if_neg (by simp; omega)] <;> rfl) | (rw [if_neg (by simp)] <;> rfl)
  case sd2_23 => exact fun L W _ h => h
  simp only [Act.put, List.setIfInBounds_toArray, List.set_cons_zero, List.set_cons_succ]
  refine' DetS.takeL (i := 24) (v := _) rfl (by kernel_rfl) (by kernel_rfl) (by kernel_rfl) (YS.pure rfl ?sd2_24 ?rd2_24) ?nd2_24
  case rd2_24 => intro L W hS; obtain ⟨k0, k1, k2, k3, k4, k5, k6, k7, k8, -⟩ := row_facts9 (row_keep hr1 hS); go_simp; first | rfl | (rw [if_neg (by omega)] <;> rfl) | (rw [if_neg (by simp; omega)] <;> rfl) | (rw [if_neg (by simp)] <;> rfl)
  case sd2_24 => exact fun L W _ h => h
  simp only [Act.put, List.setIfInBounds_toArray, List.set_cons_zero, List.set_cons_succ]
  refine' DetS.takeL (i := 25) (v := _) rfl (by kernel_rfl) (by kernel_rfl) (by kernel_rfl) (YS.pure rfl ?sd2_25 ?rd2_25) ?nd2_25
  case rd2_25 => intro L W hS; obtain ⟨k0, k1, k2, k3, k4, k5, k6, k7, k8, -⟩ := row_facts9 (row_keep hr1 hS); go_simp; first | rfl | (rw [if_neg (by omega)] <;> rfl) | (rw [if_neg (by simp; omega)] <;> rfl) | (rw [if_neg (by simp)] <;> rfl)
  case sd2_25 => exact fun L W _ h => h
  simp only [Act.put, List.setIfInBounds_toArray, List.set_cons_zero, List.set_cons_succ]
  refine DetS.done (by kernel_rfl) (fun W hS => ?_) _
  have hbW := bnext hb0 hS hb0.size
  clear hS
  go_wp2
  go_ret
  exact ⟨rfl, hbW⟩
end Go.Proofs.YtfhkgbimnfjfhaaGreatDoor
