/- Joined texts: Entries copied and compared. The conditions stand in each line. -/
import Derived.Test.YtfhkgbimnfjfhaaGreatDoorM15
import Derived.Test.YtfhkgbimnfjfhaaGreatDoorM21
import Derived.Test.YtfhkgbimnfjfhaaGreatDoorM22
import Derived.Test.YtfhkgbimnfjfhaaGreatDoorM23
set_option linter.unusedVariables false
set_option linter.unusedSimpArgs false
namespace Go.Proofs.YtfhkgbimnfjfhaaGreatDoor
open Go.RowKit

set_option maxRecDepth 100000
theorem row_facts9 {w : World} {v0 v1 v2 v3 v4 v5 v6 v7 v8 : Value} {t : TypeId} {B : Nat} (h : w.heap[B]? = some (.cells #[v0, v1, v2, v3, v4, v5, v6, v7, v8] t (0, 0))) :
    w.cell? ⟨B, 0, none⟩ = some v0 ∧ w.cell? ⟨B, 1, none⟩ = some v1 ∧ w.cell? ⟨B, 2, none⟩ = some v2 ∧ w.cell? ⟨B, 3, none⟩ = some v3 ∧ w.cell? ⟨B, 4, none⟩ = some v4 ∧ w.cell? ⟨B, 5, none⟩ = some v5 ∧ w.cell? ⟨B, 6, none⟩ = some v6 ∧ w.cell? ⟨B, 7, none⟩ = some v7 ∧ w.cell? ⟨B, 8, none⟩ = some v8 ∧ w.frozen? ⟨B, 0, none⟩ = false ∧ w.frozen? ⟨B, 1, none⟩ = false ∧ w.frozen? ⟨B, 2, none⟩ = false ∧ w.frozen? ⟨B, 3, none⟩ = false ∧ w.frozen? ⟨B, 4, none⟩ = false ∧ w.frozen? ⟨B, 5, none⟩ = false ∧ w.frozen? ⟨B, 6, none⟩ = false ∧ w.frozen? ⟨B, 7, none⟩ = false ∧ w.frozen? ⟨B, 8, none⟩ = false := by
  refine ⟨?_, ?_, ?_, ?_, ?_, ?_, ?_, ?_, ?_, ?_, ?_, ?_, ?_, ?_, ?_, ?_, ?_, ?_⟩
  iterate 9 (rw [cell_of_row _ _ _ _ _ _ h]; rfl)
  all_goals (simp only [World.frozen?, h]; rfl)
set_option maxHeartbeats 1000000 in
theorem copyResponse_own (st : Int) (rs : List UInt8) (minor : Int) (A : Option Addr) (n c : Nat) (l : List Fld) (w : World) (hl : RdF w A n l) (hn : n ≤ 1048576) :
    Calls Tryz.prog 24 #[respV st rs minor A n c] w fun e w' => ∃ A' n' c', e = .returned (respV st rs minor A' n' c') ∧ OwnF w' w.heap.size (.slice A' n' c') l ∧ Below w.heap.size w w' := by
  unfold respV
  have hal1 := alloc_below w (.cells #[.int .i64 st, .string (bs rs), .int .i64 minor, .slice A n c] 24)
  have hr1 := heap_alloc_new w (.cells #[.int .i64 st, .string (bs rs), .int .i64 minor, .slice A n c] 24)
  have hal2 := alloc_below (w.alloc (.cells #[.int .i64 st, .string (bs rs), .int .i64 minor, .slice A n c] 24)) (.cells #[.int .i64 0, .string ⟨#[]⟩, .int .i64 0, .slice none 0 0] 24)
  have hb0 := bnext hal1 hal2 hal1.size
  have hl2 := (hl.step hal1).step hal2
  have hr2 := heap_alloc_new (w.alloc (.cells #[.int .i64 st, .string (bs rs), .int .i64 minor, .slice A n c] 24)) (.cells #[.int .i64 0, .string ⟨#[]⟩, .int .i64 0, .slice none 0 0] 24)
  rw [show (w.alloc (.cells #[.int .i64 st, .string (bs rs), .int .i64 minor, .slice A n c] 24)).heap.size = w.heap.size + 1 by simp] at hr2
  have hr1a := row_keep hr1 hal2
  have hC := copyFields_own A n c l _ hl2 (by omega)
  clear hal1 hal2 hl hl2 hr1
  go_enter Tryz.func24, Tryz.ntmps24
  go_wp2_with fail
  refine hC.mono ?_
  rintro e w1 ⟨A', n', c', rfl, hown, hb1⟩
  have hr1b := row_keep hr1a hb1
  have hr2b := row_keep hr2 hb1
  have hbA := bnext hb0 hb1 hb0.size
  have hlt : w.heap.size + 2 ≤ w1.heap.size := by have := hb1.size; simpa using this
  obtain ⟨a0, a1, a2, a3, g0, g1, g2, g3⟩ := row_facts4 hr1b
  obtain ⟨c0, c1, c2, c3, f0, f1, f2, f3⟩ := row_facts4 hr2b
  clear hr1a hr2 hr1b hr2b hb1 hb0 hC
  rw [show ((w.alloc (.cells #[.int .i64 st, .string (bs rs), .int .i64 minor, .slice A n c] 24)).alloc (.cells #[.int .i64 0, .string ⟨#[]⟩, .int .i64 0, .slice none 0 0] 24)).heap.size = w.heap.size + 2 by simp] at hown
  go_wp2
  refine bodyPost_ret (v := .agg #[.int .i64 st, .string (bs rs), .int .i64 minor, .slice A' n' c']) (by simp [results, Tryz.results24, go_sem, c0, c1, c2, c3]) rfl ⟨A', n', c', rfl, (((((hown.setCell (by simp) _).setCell (by simp) _).setCell (by simp) _).setCell (by simp) _).setCell (by simp) _).mono (by omega), ((((hbA.setCell (by simp) _).setCell (by simp) _).setCell (by simp) _).setCell (by simp) _).setCell (by simp) _⟩
theorem OwnB.setCell {w : World} {B : Nat} {v : Value} {l : List UInt8} (h : OwnB w B v l) {p : Addr} (hp : p.block < B) (u : Value) : OwnB (w.setCell p u) B v l := own_setCell h hp u
theorem row9_resp {w : World} {v0 v1 v2 v3 v4 v5 v6 v7 v8 u2 u3 u4 u5 : Value} {t : TypeId} {b : Nat} (h : w.heap[b]? = some (.cells #[v0, v1, v2, v3, v4, v5, v6, v7, v8] t (0, 0))) :
    ((((w.setCell ⟨b, 2, none⟩ u2).setCell ⟨b, 3, none⟩ u3).setCell ⟨b, 4, none⟩ u4).setCell ⟨b, 5, none⟩ u5).heap[b]? = some (.cells #[v0, v1, u2, u3, u4, u5, v6, v7, v8] t (0, 0)) := by
  have h0 : (w.setCell ⟨b, 2, none⟩ u2).heap[b]? = some (.cells #[v0, v1, u2, v3, v4, v5, v6, v7, v8] t (0, 0)) := by simpa using DA.heap_set h 2 u2
  have h1 : ((w.setCell ⟨b, 2, none⟩ u2).setCell ⟨b, 3, none⟩ u3).heap[b]? = some (.cells #[v0, v1, u2, u3, v4, v5, v6, v7, v8] t (0, 0)) := by simpa using DA.heap_set h0 3 u3
  have h2 : (((w.setCell ⟨b, 2, none⟩ u2).setCell ⟨b, 3, none⟩ u3).setCell ⟨b, 4, none⟩ u4).heap[b]? = some (.cells #[v0, v1, u2, u3, u4, v5, v6, v7, v8] t (0, 0)) := by simpa using DA.heap_set h1 4 u4
  simpa using DA.heap_set h2 5 u5
theorem row9_body {w : World} {v0 v1 v2 v3 v4 v5 v6 v7 v8 u6 : Value} {t : TypeId} {b : Nat} (h : w.heap[b]? = some (.cells #[v0, v1, v2, v3, v4, v5, v6, v7, v8] t (0, 0))) :
    (w.setCell ⟨b, 6, none⟩ u6).heap[b]? = some (.cells #[v0, v1, v2, v3, v4, v5, u6, v7, v8] t (0, 0)) := by simpa using DA.heap_set h 6 u6
theorem rest4 {w : World} {b k : Nat} {x : Option Obj} (u2 u3 u4 u5 : Value) (h : w.heap[k]? = x) (hk : k ≠ b) : ((((w.setCell ⟨b, 2, none⟩ u2).setCell ⟨b, 3, none⟩ u3).setCell ⟨b, 4, none⟩ u4).setCell ⟨b, 5, none⟩ u5).heap[k]? = x := by
  rw [DA.heap_rest hk, DA.heap_rest hk, DA.heap_rest hk, DA.heap_rest hk]; exact h
theorem rest1 {w : World} {b k : Nat} {x : Option Obj} (o : Nat) (u : Value) (h : w.heap[k]? = x) (hk : k ≠ b) : (w.setCell ⟨b, o, none⟩ u).heap[k]? = x := by
  rw [DA.heap_rest hk]; exact h
set_option maxHeartbeats 2000000 in
theorem copyEntry_any (e : Frs.Ent) (A : Option Addr) (n c : Nat) (B : Option Addr) (m k : Nat) (w : World) (hl : RdF w A n e.l) (hn : n ≤ 1048576) (hB : RdB w B m e.b) (hm : m ≤ 1048576) :
    Calls Tryz.prog 10 #[entV e A n c B m k] w fun x w' => ∃ A' n' c' B' m' k', x = .returned (entV e A' n' c' B' m' k') ∧ RdF w' A' n' e.l ∧ RdB w' B' m' e.b ∧ Below w.heap.size w w' := by
  unfold entV
  have hal1 := alloc_below w (.cells #[.string (bs e.key), .string (bs e.vary), .int .i64 e.st, .string (bs e.rs), .int .i64 e.mi, .slice A n c, .slice B m k, .int .i64 e.asked, .int .i64 e.got] 27)
  have hr1 := heap_alloc_new w (.cells #[.string (bs e.key), .string (bs e.vary), .int .i64 e.st, .string (bs e.rs), .int .i64 e.mi, .slice A n c, .slice B m k, .int .i64 e.asked, .int .i64 e.got] 27)
  have hal2 := alloc_below (w.alloc (.cells #[.string (bs e.key), .string (bs e.vary), .int .i64 e.st, .string (bs e.rs), .int .i64 e.mi, .slice A n c, .slice B m k, .int .i64 e.asked, .int .i64 e.got] 27)) (.cells #[.string ⟨#[]⟩, .string ⟨#[]⟩, .int .i64 0, .string ⟨#[]⟩, .int .i64 0, .slice none 0 0, .slice none 0 0, .int .i64 0, .int .i64 0] 27)
  have hb0 := bnext hal1 hal2 hal1.size
  have hr2 := heap_alloc_new (w.alloc (.cells #[.string (bs e.key), .string (bs e.vary), .int .i64 e.st, .string (bs e.rs), .int .i64 e.mi, .slice A n c, .slice B m k, .int .i64 e.asked, .int .i64 e.got] 27)) (.cells #[.string ⟨#[]⟩, .string ⟨#[]⟩, .int .i64 0, .string ⟨#[]⟩, .int .i64 0, .slice none 0 0, .slice none 0 0, .int .i64 0, .int .i64 0] 27)
  rw [show (w.alloc (.cells #[.string (bs e.key), .string (bs e.vary), .int .i64 e.st, .string (bs e.rs), .int .i64 e.mi, .slice A n c, .slice B m k, .int .i64 e.asked, .int .i64 e.got] 27)).heap.size = w.heap.size + 1 by simp] at hr2
  replace hr1 := row_keep hr1 hal2
  have hsz : w.heap.size + 2 ≤ ((w.alloc (.cells #[.string (bs e.key), .string (bs e.vary), .int .i64 e.st, .string (bs e.rs), .int .i64 e.mi, .slice A n c, .slice B m k, .int .i64 e.asked, .int .i64 e.got] 27)).alloc (.cells #[.string ⟨#[]⟩, .string ⟨#[]⟩, .int .i64 0, .string ⟨#[]⟩, .int .i64 0, .slice none 0 0, .slice none 0 0, .int .i64 0, .int .i64 0] 27)).heap.size := by simp
  clear hal1 hal2
  go_enter Tryz.func10, Tryz.ntmps10
  go_upto_region 1 with fail
  generalize (w.alloc (.cells #[.string (bs e.key), .string (bs e.vary), .int .i64 e.st, .string (bs e.rs), .int .i64 e.mi, .slice A n c, .slice B m k, .int .i64 e.asked, .int .i64 e.got] 27)).alloc (.cells #[.string ⟨#[]⟩, .string ⟨#[]⟩, .int .i64 0, .string ⟨#[]⟩, .int .i64 0, .slice none 0 0, .slice none 0 0, .int .i64 0, .int .i64 0] 27) = w2 at *
  have hC := copyResponse_own e.st e.rs e.mi A n c e.l w2 (hl.step hb0) hn
  unfold respV at hC
  obtain ⟨a0, a1, a2, a3, a4, a5, a6, a7, a8, -⟩ := row_facts9 hr1
  go_wp2_with fail
  refine hC.mono ?_
  rintro x w3 ⟨A', n', c', rfl, hown, hb3⟩
  clear a0 a1 a2 a3 a4 a5 a6 a7 a8 hC
  replace hr1 := row_keep hr1 hb3
  replace hr2 := row_keep hr2 hb3
  replace hb0 := bnext hb0 hb3 hb0.size
  have hsz3 : w.heap.size + 2 ≤ w3.heap.size := Nat.le_trans hsz hb3.size
  replace hown : OwnF w3 (w.heap.size + 2) (.slice A' n' c') e.l := hown.mono hsz
  clear hb3
  have hr1' := row9_resp (u2 := .int .i64 e.st) (u3 := .string (bs e.rs)) (u4 := .int .i64 e.mi) (u5 := .slice A' n' c') hr1
  have hr2' := rest4 (.int .i64 e.st) (.string (bs e.rs)) (.int .i64 e.mi) (.slice A' n' c') hr2 (show w.heap.size + 1 ≠ w.heap.size by omega)
  have hown' := (((hown.setCell (p := ⟨w.heap.size, 2, none⟩) (by simp) (.int .i64 e.st)).setCell (p := ⟨w.heap.size, 3, none⟩) (by simp) (.string (bs e.rs))).setCell (p := ⟨w.heap.size, 4, none⟩) (by simp) (.int .i64 e.mi)).setCell (p := ⟨w.heap.size, 5, none⟩) (by simp) (.slice A' n' c')
  have hb0' := (((hb0.setCell (p := ⟨w.heap.size, 2, none⟩) (by simp) (.int .i64 e.st)).setCell (p := ⟨w.heap.size, 3, none⟩) (by simp) (.string (bs e.rs))).setCell (p := ⟨w.heap.size, 4, none⟩) (by simp) (.int .i64 e.mi)).setCell (p := ⟨w.heap.size, 5, none⟩) (by simp) (.slice A' n' c')
  have hsz3' : w.heap.size + 2 ≤ ((((w3.setCell ⟨w.heap.size, 2, none⟩ (.int .i64 e.st)).setCell ⟨w.heap.size, 3, none⟩ (.string (bs e.rs))).setCell ⟨w.heap.size, 4, none⟩ (.int .i64 e.mi)).setCell ⟨w.heap.size, 5, none⟩ (.slice A' n' c')).heap.size := by
    simp only [DA.size_set]; exact hsz3
  obtain ⟨a0, a1, a2, a3, a4, a5, a6, a7, a8, f0, f1, f2, f3, f4, f5, f6, f7, f8⟩ := row_facts9 hr1
  go_upto_region 2 with fail
  generalize (((w3.setCell ⟨w.heap.size, 2, none⟩ (.int .i64 e.st)).setCell ⟨w.heap.size, 3, none⟩ (.string (bs e.rs))).setCell ⟨w.heap.size, 4, none⟩ (.int .i64 e.mi)).setCell ⟨w.heap.size, 5, none⟩ (.slice A' n' c') = w4 at *
  clear a0 a1 a2 a3 a4 a5 a6 a7 a8 f0 f1 f2 f3 f4 f5 f6 f7 f8 hr1 hr2 hown hb0 hsz3
  have hC := copyBytes_own B m k e.b w4 (hB.step hb0') (by omega)
  obtain ⟨a0, a1, a2, a3, a4, a5, a6, a7, a8, -⟩ := row_facts9 hr1'
  go_wp2_with fail
  refine hC.mono ?_
  rintro x w5 ⟨B', m', k', rfl, hownB, hb5⟩
  clear a0 a1 a2 a3 a4 a5 a6 a7 a8 hC
  replace hr1' := row_keep hr1' hb5
  replace hr2' := row_keep hr2' hb5
  replace hb0' := bnext hb0' hb5 hb0'.size
  have hsz5 : w.heap.size + 2 ≤ w5.heap.size := Nat.le_trans hsz3' hb5.size
  replace hown' := hown'.step hb5
  replace hownB : OwnB w5 (w.heap.size + 2) (.slice B' m' k') e.b := hownB.mono hsz3'
  clear hb5
  have hr1 := row9_body (u6 := .slice B' m' k') hr1'
  have hr2 := rest1 6 (.slice B' m' k') hr2' (show w.heap.size + 1 ≠ w.heap.size by omega)
  have hown := hown'.setCell (p := ⟨w.heap.size, 6, none⟩) (by simp) (.slice B' m' k')
  have hownB' := hownB.setCell (p := ⟨w.heap.size, 6, none⟩) (by simp) (.slice B' m' k')
  have hb0 := hb0'.setCell (p := ⟨w.heap.size, 6, none⟩) (by simp) (.slice B' m' k')
  obtain ⟨a0, a1, a2, a3, a4, a5, a6, a7, a8, f0, f1, f2, f3, f4, f5, f6, f7, f8⟩ := row_facts9 hr1'
  go_upto_region 3 with fail
  generalize w5.setCell ⟨w.heap.size, 6, none⟩ (.slice B' m' k') = w6 at *
  clear a0 a1 a2 a3 a4 a5 a6 a7 a8 f0 f1 f2 f3 f4 f5 f6 f7 f8 hr1' hr2' hown' hownB hb0'
  obtain ⟨a0, a1, a2, a3, a4, a5, a6, a7, a8, f0, f1, f2, f3, f4, f5, f6, f7, f8⟩ := row_facts9 hr1
  obtain ⟨c0, c1, c2, c3, c4, c5, c6, c7, c8, g0, g1, g2, g3, g4, g5, g6, g7, g8⟩ := row_facts9 hr2
  clear hr1 hr2
  go_wp2
  refine bodyPost_ret (v := .agg #[.string (bs e.key), .string (bs e.vary), .int .i64 e.st, .string (bs e.rs), .int .i64 e.mi, .slice A' n' c', .slice B' m' k', .int .i64 e.asked, .int .i64 e.got]) (by simp [results, Tryz.results10, go_sem, c0, c1, c2, c3, c4, c5, c6, c7, c8]) rfl ⟨A', n', c', B', m', k', rfl, (((((((((hown.setCell (by simp) _).setCell (by simp) _).setCell (by simp) _).setCell (by simp) _).setCell (by simp) _).setCell (by simp) _).setCell (by simp) _).setCell (by simp) _).setCell (by simp) _).rd, (((((((((hownB'.setCell (by simp) _).setCell (by simp) _).setCell (by simp) _).setCell (by simp) _).setCell (by simp) _).setCell (by simp) _).setCell (by simp) _).setCell (by simp) _).setCell (by simp) _).rd, (((((((((hb0.setCell (by simp) _).setCell (by simp) _).setCell (by simp) _).setCell (by simp) _).setCell (by simp) _).setCell (by simp) _).setCell (by simp) _).setCell (by simp) _).setCell (by simp) _)⟩
set_option maxHeartbeats 1000000 in
theorem sameEntry_any (e : Frs.Ent) (A : Option Addr) (n c : Nat) (B : Option Addr) (m k : Nat) (A' : Option Addr) (n' c' : Nat) (B' : Option Addr) (m' k' : Nat) (w : World) (hl : RdF w A n e.l) (hn : n ≤ 1048576) (hB : RdB w B m e.b) (hm : m ≤ 1048576)
    (hl' : RdF w A' n' e.l) (hn' : n' ≤ 1048576) (hB' : RdB w B' m' e.b) (hm' : m' ≤ 1048576) :
    Calls Tryz.prog 15 #[entV e A n c B m k, entV e A' n' c' B' m' k'] w fun x w' => x = .returned (.bool true) ∧ Below w.heap.size w w' := by
  unfold entV
  have hal1 := alloc_below w (.cells #[.string (bs e.key), .string (bs e.vary), .int .i64 e.st, .string (bs e.rs), .int .i64 e.mi, .slice A n c, .slice B m k, .int .i64 e.asked, .int .i64 e.got] 27)
  have hr1 := heap_alloc_new w (.cells #[.string (bs e.key), .string (bs e.vary), .int .i64 e.st, .string (bs e.rs), .int .i64 e.mi, .slice A n c, .slice B m k, .int .i64 e.asked, .int .i64 e.got] 27)
  have hal2 := alloc_below (w.alloc (.cells #[.string (bs e.key), .string (bs e.vary), .int .i64 e.st, .string (bs e.rs), .int .i64 e.mi, .slice A n c, .slice B m k, .int .i64 e.asked, .int .i64 e.got] 27)) (.cells #[.string (bs e.key), .string (bs e.vary), .int .i64 e.st, .string (bs e.rs), .int .i64 e.mi, .slice A' n' c', .slice B' m' k', .int .i64 e.asked, .int .i64 e.got] 27)
  have hb0 := bnext hal1 hal2 hal1.size
  have hr2 := heap_alloc_new (w.alloc (.cells #[.string (bs e.key), .string (bs e.vary), .int .i64 e.st, .string (bs e.rs), .int .i64 e.mi, .slice A n c, .slice B m k, .int .i64 e.asked, .int .i64 e.got] 27)) (.cells #[.string (bs e.key), .string (bs e.vary), .int .i64 e.st, .string (bs e.rs), .int .i64 e.mi, .slice A' n' c', .slice B' m' k', .int .i64 e.asked, .int .i64 e.got] 27)
  rw [show (w.alloc (.cells #[.string (bs e.key), .string (bs e.vary), .int .i64 e.st, .string (bs e.rs), .int .i64 e.mi, .slice A n c, .slice B m k, .int .i64 e.asked, .int .i64 e.got] 27)).heap.size = w.heap.size + 1 by simp] at hr2
  replace hr1 := row_keep hr1 hal2
  clear hal1 hal2
  have q1 : (e.key == e.key) = true := by simp
  have q2 : (e.vary == e.vary) = true := by simp
  have q3 : (e.asked == e.asked) = true := by simp
  have q4 : (e.got == e.got) = true := by simp
  go_enter Tryz.func15, Tryz.ntmps15
  go_upto_region 1 with fail
  generalize (w.alloc (.cells #[.string (bs e.key), .string (bs e.vary), .int .i64 e.st, .string (bs e.rs), .int .i64 e.mi, .slice A n c, .slice B m k, .int .i64 e.asked, .int .i64 e.got] 27)).alloc (.cells #[.string (bs e.key), .string (bs e.vary), .int .i64 e.st, .string (bs e.rs), .int .i64 e.mi, .slice A' n' c', .slice B' m' k', .int .i64 e.asked, .int .i64 e.got] 27) = w2 at *
  have hC := sameResponse_any e.st e.rs e.mi A A' n c n' c' e.l w2 (hl.step hb0) (hl'.step hb0) hn hn'
  unfold respV at hC
  obtain ⟨a0, a1, a2, a3, a4, a5, a6, a7, a8, -⟩ := row_facts9 hr1
  obtain ⟨c0, c1, c2, c3, c4, c5, c6, c7, c8, -⟩ := row_facts9 hr2
  go_wp2_with fail
  refine hC.mono ?_
  rintro x w3 ⟨rfl, hb3⟩
  clear a0 a1 a2 a3 a4 a5 a6 a7 a8 c0 c1 c2 c3 c4 c5 c6 c7 c8 hC
  replace hr1 := row_keep hr1 hb3
  replace hr2 := row_keep hr2 hb3
  replace hb0 := bnext hb0 hb3 hb0.size
  clear hb3
  have hC := sameBytes_any B B' m m' k k' e.b e.b w3 (hB.step hb0) (hB'.step hb0) (by omega) (by omega)
  rw [show (e.b == e.b) = true by simp] at hC
  obtain ⟨a0, a1, a2, a3, a4, a5, a6, a7, a8, -⟩ := row_facts9 hr1
  obtain ⟨c0, c1, c2, c3, c4, c5, c6, c7, c8, -⟩ := row_facts9 hr2
  go_wp2_with fail
  refine hC.mono ?_
  rintro x w4 ⟨rfl, hb4⟩
  clear a0 a1 a2 a3 a4 a5 a6 a7 a8 c0 c1 c2 c3 c4 c5 c6 c7 c8 hC
  replace hr1 := row_keep hr1 hb4
  replace hr2 := row_keep hr2 hb4
  replace hb0 := bnext hb0 hb4 hb0.size
  obtain ⟨a0, a1, a2, a3, a4, a5, a6, a7, a8, -⟩ := row_facts9 hr1
  obtain ⟨c0, c1, c2, c3, c4, c5, c6, c7, c8, -⟩ := row_facts9 hr2
  clear hb4
  go_wp2
  go_ret
  exact ⟨rfl, hb0⟩
end Go.Proofs.YtfhkgbimnfjfhaaGreatDoor
