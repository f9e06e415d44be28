/- Joined texts: Apply where no span lies within the bytes. The conditions stand in each line. -/
import Derived.Test.YtcaekfebnhedpaaGreatDoorM32
set_option linter.unusedVariables false
set_option linter.unusedSimpArgs false
namespace Go.Proofs.YtcaekfebnhedpaaGreatDoor
open Go.RowKit

set_option maxRecDepth 100000
theorem rdS_lit9 (w : World) (l : List (List UInt8)) (t : TypeId) (cs : Array Value) (h : cs = (strs l).toArray) : RdS (w.alloc (.cells cs t)) (some ⟨w.heap.size, 0, none⟩) l.length l := by
  subst h
  refine ⟨rfl, by rw [strs_length]; omega, fun _ => ⟨w.heap.size, 0, rfl, by simp, fun j u hu => ?_⟩⟩
  rw [Nat.zero_add, cell_of_row _ _ _ _ t (0, 0) (heap_alloc_new w _)]
  simpa using hu
set_option maxHeartbeats 8000000 in
theorem apply_unsat (A : Option Addr) (n c : Nat) (q : List Fld) (st : Int) (rs : List UInt8) (minor : Int) (B : Option Addr) (m d : Nat) (l : List Fld) (Y : Option Addr) (k e : Nat) (b : List UInt8) (w : World) (ht : Tab w) (hM : MaxL w)
    (hq : RdF w A n q) (hn : n ≤ 1048576) (hqs : FlenS q) (hqj : (Frs.getL q Rg.rngR).length ≤ 1073741824) (hl : RdF w B m l) (hm : m ≤ 1048576) (hls : FlenS l) (hb : RdB w Y k b) (hk : k ≤ 4194304) (hke : k ≤ e) (hee : e ≤ maxLen) (has : ¬ Rg.asIs q st l b) (her : (Rg.parseL (Frs.getL q Rg.rngR) b.length).2 = 191) :
    Calls Tryz.prog 17 #[.slice A n c, respV st rs minor B m d, .slice Y k e] w fun x w' => ApOut w minor (Rg.unsatA l b) x w' := by
  unfold respV
  have hee2 : (e : Int) ≤ 9223372036854775807 := by unfold maxLen at hee; omega
  have hb1 := alloc_below w (.cells #[.int .i64 st, .string (bs rs), .int .i64 minor, .slice B m d] 31)
  have hr1 := heap_alloc_new w (.cells #[.int .i64 st, .string (bs rs), .int .i64 minor, .slice B m d] 31)
  have hb2 := alloc_below (w.alloc (.cells #[.int .i64 st, .string (bs rs), .int .i64 minor, .slice B m d] 31)) (.cells #[.int .i64 0, .string ⟨#[]⟩, .int .i64 0, .slice none 0 0] 31)
  have hz2 := heap_alloc_new (w.alloc (.cells #[.int .i64 st, .string (bs rs), .int .i64 minor, .slice B m d] 31)) (.cells #[.int .i64 0, .string ⟨#[]⟩, .int .i64 0, .slice none 0 0] 31)
  rw [show (w.alloc (.cells #[.int .i64 st, .string (bs rs), .int .i64 minor, .slice B m d] 31)).heap.size = w.heap.size + 1 by simp] at hz2
  have hr2 := row_keep hr1 hb2
  have hb0 := bnext hb1 hb2 hb1.size
  have hsz2 : w.heap.size + 2 ≤ ((w.alloc (.cells #[.int .i64 st, .string (bs rs), .int .i64 minor, .slice B m d] 31)).alloc (.cells #[.int .i64 0, .string ⟨#[]⟩, .int .i64 0, .slice none 0 0] 31)).heap.size := by simp
  have hG : Hid (∀ W, Below w.heap.size w W → Calls Tryz.prog 24 #[.slice A n c, .string (bs Rg.rngP)] W fun x w' => x = .returned (.tuple #[.string (bs (Frs.getL q Rg.rngR)), .bool (!(valuesL q Rg.rngR).isEmpty)]) ∧ Below W.heap.size W w') := Lib.hid fun W hW => by
    have h := get_any A n c q Rg.rngP W (hq.step hW) hn hqs (by decide)
    change Calls Tryz.prog 24 _ _ fun x w' => x = .returned (.tuple #[.string (bs (Frs.getL q Rg.rngP)), .bool (!(valuesL q Rg.rngP).isEmpty)]) ∧ _ at h
    rw [show Frs.getL q Rg.rngP = Frs.getL q Rg.rngR from Frs.get_name rfl, show valuesL q Rg.rngP = valuesL q Rg.rngR from valuesL_nameG rfl] at h
    exact h
  clear hr1 hb1 hb2
  have hPC : Hid (∀ W, Below w.heap.size w W → Calls Tryz.prog 11 #[.string (bs (Frs.getL q Rg.rngR)), .int .i64 (k : Int)] W fun x w' => RgOut W (Frs.getL q Rg.rngR) (k : Int) x w') := Lib.hid fun W hW => parse19_p (Frs.getL q Rg.rngR) (k : Int) W (maxl_b hM hW) hqj (by omega) (by omega)
  unfold RgOut at hPC
  have hHO : Hid (∀ W, Below w.heap.size w W → Calls Tryz.prog 35 #[.slice A n c, .agg #[.int .i64 st, .string (bs rs), .int .i64 minor, .slice B m d]] W fun x w' => x = .returned (.bool (Rg.holdsL q l)) ∧ Below W.heap.size W w') := Lib.hid fun W hW => holds_p A n c q st rs minor B m d l W (hq.step hW) hn hqs (hl.step hW) hm hls
  have h200 : st = 200 := Classical.byContradiction fun h => has (.inl h)
  have hvne : valuesL q Rg.rngR ≠ [] := fun h => has (.inr (.inl h))
  have h190 : (Rg.parseL (Frs.getL q Rg.rngR) b.length).2 ≠ 190 := fun h => has (.inr (.inr (.inl h)))
  have hhT : Rg.holdsL q l = true := by
    cases h : Rg.holdsL q l with
    | true => rfl
    | false => exact absurd (.inr (.inr (.inr h))) has
  have hbl := hb.1
  rw [hbl] at h190
  have hve2 : (!(valuesL q Rg.rngR).isEmpty) = true := by
    cases h : valuesL q Rg.rngR with
    | nil => exact absurd h hvne
    | cons x r => rfl
  subst h200
  clear has hvne
  rw [hbl] at her
  rw [hve2] at hG
  rw [hhT] at hHO
  generalize Rg.parseL (Frs.getL q Rg.rngR) (k : Int) = PL at *
  obtain ⟨sp, er⟩ := PL
  generalize Frs.getL q Rg.rngR = V at *
  clear hve2 hhT
  dsimp only at *
  subst her
  clear h190
  go_enter Tryz.func17, Tryz.ntmps17
  go_upto_region 1 with fail
  generalize (w.alloc (.cells #[.int .i64 200, .string (bs rs), .int .i64 minor, .slice B m d] 31)).alloc (.cells #[.int .i64 0, .string ⟨#[]⟩, .int .i64 0, .slice none 0 0] 31) = w2 at *
  go_wp2_with fail
  refine (hG.out _ hb0).mono ?_
  rintro x w3 ⟨rfl, hb3⟩
  have hr3 := row_keep hr2 hb3
  have hz3 := row_keep hz2 hb3
  replace hb0 := bnext hb0 hb3 hb0.size
  have hsz3 : w.heap.size + 2 ≤ w3.heap.size := Nat.le_trans hsz2 hb3.size
  clear hr2 hz2 hsz2 hb3 hG
  go_wp2_with fail
  refine (hPC.out _ hb0).mono ?_
  rintro x w4 ⟨A4, n4, c4, rfl, hP, hb4⟩
  have hr4 := row_keep hr3 hb4
  have hz4 := row_keep hz3 hb4
  replace hP := hP.mono (show w.heap.size + 2 ≤ w3.heap.size from hsz3)
  replace hb0 := bnext hb0 hb4 hb0.size
  have hsz4 : w.heap.size + 2 ≤ w4.heap.size := Nat.le_trans hsz3 hb4.size
  clear hr3 hz3 hsz3 hb4 hPC
  obtain ⟨a0, a1, a2, a3, -⟩ := row_facts4 hr4
  go_wp2_with fail
  refine (hHO.out _ hb0).mono ?_
  rintro x w4b ⟨rfl, hb4b⟩
  clear hHO a0 a1 a2 a3
  replace hr4 := row_keep hr4 hb4b
  replace hz4 := row_keep hz4 hb4b
  replace hP := hP.step hb4b
  replace hb0 := bnext hb0 hb4b hb0.size
  replace hsz4 : w.heap.size + 2 ≤ w4b.heap.size := Nat.le_trans hsz4 hb4b.size
  clear hb4b
  obtain ⟨a0, a1, a2, a3, -⟩ := row_facts4 hr4
  have hal6 := alloc_below w4b (.cells #[.int .i64 206, .string (⟨#[80, 97, 114, 116, 105, 97, 108, 32, 67, 111, 110, 116, 101, 110, 116]⟩), .int .i64 minor, .slice none 0 0] 31)
  have ho6 := heap_alloc_new w4b (.cells #[.int .i64 206, .string (⟨#[80, 97, 114, 116, 105, 97, 108, 32, 67, 111, 110, 116, 101, 110, 116]⟩), .int .i64 minor, .slice none 0 0] 31)
  go_upto_region 7 with fail
  clear a0 a1 a2 a3
  replace hr4 := row_keep hr4 hal6
  replace hz4 := row_keep hz4 hal6
  replace hP := hP.step hal6
  replace hb0 := bnext hb0 hal6 hb0.size
  have hsz6 : w.heap.size + 3 ≤ (w4b.alloc (.cells #[.int .i64 206, .string (⟨#[80, 97, 114, 116, 105, 97, 108, 32, 67, 111, 110, 116, 101, 110, 116]⟩), .int .i64 minor, .slice none 0 0] 31)).heap.size := by simp; omega
  have hg6 : w.heap.size + 2 ≤ w4b.heap.size := hsz4
  have hg6b : w4b.heap.size < (w4b.alloc (.cells #[.int .i64 206, .string (⟨#[80, 97, 114, 116, 105, 97, 108, 32, 67, 111, 110, 116, 101, 110, 116]⟩), .int .i64 minor, .slice none 0 0] 31)).heap.size := by simp
  clear hal6 hsz4
  generalize w4b.alloc (.cells #[.int .i64 206, .string (⟨#[80, 97, 114, 116, 105, 97, 108, 32, 67, 111, 110, 116, 101, 110, 116]⟩), .int .i64 minor, .slice none 0 0] 31) = w6 at *
  generalize w4b.heap.size = g6 at *
  clear hP
  obtain ⟨p0, p1, p2, p3, f0, f1, f2, f3⟩ := row_facts4 ho6
  go_upto_region 9 with fail
  have ho7 := DA.heap_set (DA.heap_set ho6 0 (.int .i64 416)) 1 (.string ⟨#[82, 97, 110, 103, 101, 32, 78, 111, 116, 32, 83, 97, 116, 105, 115, 102, 105, 97, 98, 108, 101]⟩)
  simp only [List.setIfInBounds_toArray, List.set_cons_zero, List.set_cons_succ] at ho7
  have hr7 := (DA.heap_rest (k := w.heap.size) (b := g6) (by omega) 1 (.string ⟨#[82, 97, 110, 103, 101, 32, 78, 111, 116, 32, 83, 97, 116, 105, 115, 102, 105, 97, 98, 108, 101]⟩)).trans ((DA.heap_rest (w := w6) (k := w.heap.size) (b := g6) (by omega) 0 (.int .i64 416)).trans hr4)
  have hz7 := (DA.heap_rest (k := w.heap.size + 1) (b := g6) (by omega) 1 (.string ⟨#[82, 97, 110, 103, 101, 32, 78, 111, 116, 32, 83, 97, 116, 105, 115, 102, 105, 97, 98, 108, 101]⟩)).trans ((DA.heap_rest (w := w6) (k := w.heap.size + 1) (b := g6) (by omega) 0 (.int .i64 416)).trans hz4)
  have hb7 : Below w.heap.size w ((w6.setCell ⟨g6, 0, none⟩ (.int .i64 416)).setCell ⟨g6, 1, none⟩ (.string ⟨#[82, 97, 110, 103, 101, 32, 78, 111, 116, 32, 83, 97, 116, 105, 115, 102, 105, 97, 98, 108, 101]⟩)) := (hb0.setCell (by show w.heap.size ≤ g6; omega) _).setCell (by show w.heap.size ≤ g6; omega) _
  have hsz7 : g6 < ((w6.setCell ⟨g6, 0, none⟩ (.int .i64 416)).setCell ⟨g6, 1, none⟩ (.string ⟨#[82, 97, 110, 103, 101, 32, 78, 111, 116, 32, 83, 97, 116, 105, 115, 102, 105, 97, 98, 108, 101]⟩)).heap.size := by rw [DA.size_set, DA.size_set]; exact hg6b
  clear p0 p1 p2 p3 f0 f1 f2 f3 ho6 hr4 hz4 hb0 hsz6 hg6b
  generalize (w6.setCell ⟨g6, 0, none⟩ (.int .i64 416)).setCell ⟨g6, 1, none⟩ (.string ⟨#[82, 97, 110, 103, 101, 32, 78, 111, 116, 32, 83, 97, 116, 105, 115, 102, 105, 97, 98, 108, 101]⟩) = w7 at *
  obtain ⟨a0, a1, a2, a3, -⟩ := row_facts4 hr7
  have hal8 := alloc_below w7 (.cells #[.string (bs Rg.clP), .string (bs Rg.ctP)] 9)
  have hC := without_own B (some ⟨w7.heap.size, 0, none⟩) m d 2 2 l [Rg.clP, Rg.ctP] _ ((hl.step hb7).step hal8) (rdS_lit9 w7 [Rg.clP, Rg.ctP] 9 _ rfl) (by omega) (by omega) hls.ok (by intro s hs; simp only [List.mem_cons, List.not_mem_nil, or_false] at hs; rcases hs with rfl | rfl <;> simp)
  have HWn : Hid ((withoutF l [Rg.clP, Rg.ctP]).length ≤ m) := Lib.hid (by rw [← hl.1]; exact List.length_filter_le _ _)
  have HWo : Hid (FlenOK (withoutF l [Rg.clP, Rg.ctP])) := Lib.hid (fun f hf => hls.ok f (List.mem_filter.1 hf).1)
  have HA : Hid (Rg.putF (withoutF l [Rg.clP, Rg.ctP]) Rg.crP (Rg.starT ++ Lib.decDigits k) = (Rg.unsatA l b).l) := Lib.hid (by unfold Rg.unsatA; rw [hbl])
  generalize withoutF l [Rg.clP, Rg.ctP] = WF at *
  go_wp2_with fail
  refine hC.mono ?_
  rintro x w9 ⟨A9, n9, c9, rfl, hF, hb9⟩
  clear hC a0 a1 a2 a3
  replace hb9 := hal8.trans (hb9.mono hal8.size)
  have hr9 := row_keep hr7 hb9
  have hz9 := row_keep hz7 hb9
  have ho9 := row_keep ho7 hb9
  replace hb7 := bnext hb7 hb9 hb7.size
  have hsz9 : g6 < w9.heap.size := Nat.lt_of_lt_of_le hsz7 hb9.size
  have hn9 : n9 ≤ 1048576 := by have := HWn.out; have := hF.rd.1; omega
  clear hr7 hz7 ho7 hb9 hal8 hsz7
  have hD := dec_len (k := k) (by omega)
  have hC := itoa_nat k w9 (by omega) (tab_b ht hb7)
  generalize Lib.decDigits k = D at *
  go_wp2_with fail
  refine hC.mono ?_
  rintro x w10 ⟨rfl, hb10⟩
  clear hC
  have hz10 := row_keep hz9 hb10
  have ho10 := row_keep ho9 hb10
  replace hb7 := bnext hb7 hb10 hb7.size
  have hsz10 : g6 < w10.heap.size := Nat.lt_of_lt_of_le hsz9 hb10.size
  replace hF := hF.step hb10
  clear hr9 hz9 ho9 hb10 hsz9
  have hC := put_p A9 n9 c9 WF Rg.crP (Rg.starT ++ D) w10 hF.rd (by omega) HWo.out (by decide)
  have hcat : (⟨#[98, 121, 116, 101, 115, 32, 42, 47]⟩ : ByteArray) ++ bs D = bs (Rg.starT ++ D) := by rw [← bs_append]; rfl
  have HA2 := Lib.hid HA.out
  generalize Rg.putF WF Rg.crP (Rg.starT ++ D) = PF at *
  generalize Rg.starT ++ D = SD at *
  go_wp2_with fail
  refine hC.mono ?_
  rintro x w11 ⟨A11, n11, c11, rfl, hO, hb11⟩
  clear hC hF HWo HWn
  have hz11 := row_keep hz10 hb11
  have ho11 := row_keep ho10 hb11
  replace hb7 := bnext hb7 hb11 hb7.size
  replace hO := hO.mono (show g6 + 1 ≤ w10.heap.size by omega)
  clear hz10 ho10 hb11
  obtain ⟨p0, p1, p2, p3, f0, f1, f2, f3⟩ := row_facts4 ho11
  go_upto_region 10 with fail
  have ho12 := DA.heap_set ho11 3 (.slice A11 n11 c11)
  simp only [List.setIfInBounds_toArray, List.set_cons_zero, List.set_cons_succ] at ho12
  have hz12 := (DA.heap_rest (w := w11) (b := g6) (k := w.heap.size + 1) (by omega) 3 (.slice A11 n11 c11)).trans hz11
  have hb12 : Below w.heap.size w (w11.setCell ⟨g6, 3, none⟩ (.slice A11 n11 c11)) := hb7.setCell (by show w.heap.size ≤ g6; omega) _
  have hO12 : OwnF (w11.setCell ⟨g6, 3, none⟩ (.slice A11 n11 c11)) (g6 + 1) (.slice A11 n11 c11) PF := own_setG hO (by omega) _
  clear p0 p1 p2 p3 f0 f1 f2 f3 ho11 hz11 hb7 hO
  generalize w11.setCell ⟨g6, 3, none⟩ (.slice A11 n11 c11) = w12 at *
  obtain ⟨p0, p1, p2, p3, -⟩ := row_facts4 ho12
  obtain ⟨z0, z1, z2, z3, y0, y1, y2, y3⟩ := row_facts4 hz12
  go_wp2
  refine bodyPost_ret (v := .tuple #[.agg #[.int .i64 416, .string ⟨#[82, 97, 110, 103, 101, 32, 78, 111, 116, 32, 83, 97, 116, 105, 115, 102, 105, 97, 98, 108, 101]⟩, .int .i64 minor, .slice A11 n11 c11], .slice none 0 0]) (by simp [results, Tryz.results17, go_sem, z0, z1, z2, z3]) rfl ⟨A11, n11, c11, none, 0, 0, rfl, ?_, OwnB.nil _ _, (((hb12.setCell (by simp) _).setCell (by simp) _).setCell (by simp) _).setCell (by simp) _⟩
  rw [← HA2.out]
  exact own_mono (own_setG (own_setG (own_setG (own_setG (own_mono hO12 (show w.heap.size + 2 ≤ g6 + 1 by omega)) (by omega) _) (by omega) _) (by omega) _) (by omega) _) (by omega)
end Go.Proofs.YtcaekfebnhedpaaGreatDoor
