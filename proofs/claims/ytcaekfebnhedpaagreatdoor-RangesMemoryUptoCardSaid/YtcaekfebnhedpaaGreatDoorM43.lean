/- Joined texts: Apply where several spans are asked for. The conditions stand in each line. -/
import Derived.Test.YtcaekfebnhedpaaGreatDoorM32
import Derived.Test.YtcaekfebnhedpaaGreatDoorM34
import Derived.Test.YtcaekfebnhedpaaGreatDoorM39
set_option linter.unusedVariables false
set_option linter.unusedSimpArgs false
namespace Go.Proofs.YtcaekfebnhedpaaGreatDoor
open Go.RowKit

set_option maxRecDepth 100000
theorem rdS_lit8 (w : World) (l : List (List UInt8)) (t : TypeId) (cs : Array Value) (h : cs = (strs l).toArray) : RdS (w.alloc (.cells cs t)) (some ⟨w.heap.size, 0, none⟩) l.length l := by
  subst h
  refine ⟨rfl, by rw [strs_length]; omega, fun _ => ⟨w.heap.size, 0, rfl, by simp, fun j u hu => ?_⟩⟩
  rw [Nat.zero_add, cell_of_row _ _ _ _ t (0, 0) (heap_alloc_new w _)]
  simpa using hu
set_option maxHeartbeats 8000000 in
theorem apply_many (A : Option Addr) (n c : Nat) (q : List Fld) (st : Int) (rs : List UInt8) (minor : Int) (B : Option Addr) (m d : Nat) (l : List Fld) (Y : Option Addr) (k e : Nat) (b : List UInt8) (w : World) (ht : Tab w) (hM : MaxL w)
    (hq : RdF w A n q) (hn : n ≤ 1048576) (hqs : FlenS q) (hqj : (Frs.getL q Rg.rngR).length ≤ 1073741824) (hl : RdF w B m l) (hm : m ≤ 1048576) (hls : FlenS l) (hb : RdB w Y k b) (hk : k ≤ 4194304) (hke : k ≤ e) (hee : e ≤ maxLen) (q0 : List Rg.Sp) (has : ¬ Rg.asIs q st l b) (hsp1 : Rg.parseL (Frs.getL q Rg.rngR) b.length = (q0, 0)) (hpin : ∀ p ∈ q0, 0 ≤ p.1 ∧ p.1 ≤ p.2 ∧ p.2 < (b.length : Int)) (hq1 : q0.length ≠ 1) (hq8 : q0.length ≤ 8) :
    Calls Tryz.prog 17 #[.slice A n c, respV st rs minor B m d, .slice Y k e] w fun x w' => ApOut w minor (Rg.manyA l b q0) x w' := by
  unfold respV
  have hee2 : (e : Int) ≤ 9223372036854775807 := by unfold maxLen at hee; omega
  have hb1 := alloc_below w (.cells #[.int .i64 st, .string (bs rs), .int .i64 minor, .slice B m d] 31)
  have hr1 := heap_alloc_new w (.cells #[.int .i64 st, .string (bs rs), .int .i64 minor, .slice B m d] 31)
  have hb2 := alloc_below (w.alloc (.cells #[.int .i64 st, .string (bs rs), .int .i64 minor, .slice B m d] 31)) (.cells #[.int .i64 0, .string ⟨#[]⟩, .int .i64 0, .slice none 0 0] 31)
  have hz2 := heap_alloc_new (w.alloc (.cells #[.int .i64 st, .string (bs rs), .int .i64 minor, .slice B m d] 31)) (.cells #[.int .i64 0, .string ⟨#[]⟩, .int .i64 0, .slice none 0 0] 31)
  rw [show (w.alloc (.cells #[.int .i64 st, .string (bs rs), .int .i64 minor, .slice B m d] 31)).heap.size = w.heap.size + 1 by simp] at hz2
  have hr2 := row_keep hr1 hb2
  have hb0 := bnext hb1 hb2 hb1.size
  have hsz2 : w.heap.size + 2 ≤ ((w.alloc (.cells #[.int .i64 st, .string (bs rs), .int .i64 minor, .slice B m d] 31)).alloc (.cells #[.int .i64 0, .string ⟨#[]⟩, .int .i64 0, .slice none 0 0] 31)).heap.size := by simp
  have hG : Hid (∀ W, Below w.heap.size w W → Calls Tryz.prog 24 #[.slice A n c, .string (bs Rg.rngP)] W fun x w' => x = .returned (.tuple #[.string (bs (Frs.getL q Rg.rngR)), .bool (!(valuesL q Rg.rngR).isEmpty)]) ∧ Below W.heap.size W w') := Lib.hid fun W hW => by
    have h := get_any A n c q Rg.rngP W (hq.step hW) hn hqs (by decide)
    change Calls Tryz.prog 24 _ _ fun x w' => x = .returned (.tuple #[.string (bs (Frs.getL q Rg.rngP)), .bool (!(valuesL q Rg.rngP).isEmpty)]) ∧ _ at h
    rw [show Frs.getL q Rg.rngP = Frs.getL q Rg.rngR from Frs.get_name rfl, show valuesL q Rg.rngP = valuesL q Rg.rngR from valuesL_nameG rfl] at h
    exact h
  clear hr1 hb1 hb2
  have hPC : Hid (∀ W, Below w.heap.size w W → Calls Tryz.prog 11 #[.string (bs (Frs.getL q Rg.rngR)), .int .i64 (k : Int)] W fun x w' => RgOut W (Frs.getL q Rg.rngR) (k : Int) x w') := Lib.hid fun W hW => parse19_p (Frs.getL q Rg.rngR) (k : Int) W (maxl_b hM hW) hqj (by omega) (by omega)
  unfold RgOut at hPC
  have hHO : Hid (∀ W, Below w.heap.size w W → Calls Tryz.prog 35 #[.slice A n c, .agg #[.int .i64 st, .string (bs rs), .int .i64 minor, .slice B m d]] W fun x w' => x = .returned (.bool (Rg.holdsL q l)) ∧ Below W.heap.size W w') := Lib.hid fun W hW => holds_p A n c q st rs minor B m d l W (hq.step hW) hn hqs (hl.step hW) hm hls
  have h200 : st = 200 := Classical.byContradiction fun h => has (.inl h)
  have hvne : valuesL q Rg.rngR ≠ [] := fun h => has (.inr (.inl h))
  have h190 : (Rg.parseL (Frs.getL q Rg.rngR) b.length).2 ≠ 190 := fun h => has (.inr (.inr (.inl h)))
  have hhT : Rg.holdsL q l = true := by
    cases h : Rg.holdsL q l with
    | true => rfl
    | false => exact absurd (.inr (.inr (.inr h))) has
  have hbl := hb.1
  rw [hbl] at h190
  have hve2 : (!(valuesL q Rg.rngR).isEmpty) = true := by
    cases h : valuesL q Rg.rngR with
    | nil => exact absurd h hvne
    | cons x r => rfl
  subst h200
  clear has hvne
  rw [hbl] at hsp1 hpin
  have HA : Hid (Rg.manyA l b q0 = ⟨206, Rg.partT, Rg.putF (withoutF l [Rg.clP, Rg.crP]) Rg.ctP (Rg.mulT ++ Rg.markT (Rg.markN b)), Rg.partsL (Rg.markT (Rg.markN b)) (Frs.getL l Rg.ctR) (!(valuesL l Rg.ctR).isEmpty) b q0⟩) := Lib.hid rfl
  generalize Rg.manyA l b q0 = AN at *
  rw [hsp1] at hPC
  have hmk : (Rg.markT (Rg.markN b)).length ≤ 100 := by
    have h1 := (Rg.mark_spec (b := b) (by rw [hbl]; exact hk)).1
    have h2 := dec_len (k := Rg.markN b) (by omega)
    unfold Rg.markT; simp; omega
  have HBY : Hid (∀ W, Below w.heap.size w W → Calls Tryz.prog 41 #[.slice Y k e] W fun x w' => x = .returned (.string (bs (Rg.markT (Rg.markN b)))) ∧ Below W.heap.size W w') := Lib.hid fun W hW => boundary_any Y k e b W (tab_b ht hW) (maxl_b hM hW) (hb.step hW) hk hke
  generalize Rg.markT (Rg.markN b) = MK at *
  have HPT : Hid (∀ (Pa : Option Addr) (pn pc : Nat) (W : World), Below w.heap.size w W → RdP W Pa pn q0 → Calls Tryz.prog 42 #[.slice Pa pn pc, .agg #[.int .i64 200, .string (bs rs), .int .i64 minor, .slice B m d], .slice Y k e, .string (bs MK)] W fun x w' => ∃ A' n' c', x = .returned (.slice A' n' c') ∧ OwnB w' W.heap.size (.slice A' n' c') (Rg.partsL MK (Frs.getL l Rg.ctR) (!(valuesL l Rg.ctR).isEmpty) b q0) ∧ Below W.heap.size W w') := Lib.hid fun Pa pn pc W hW hp => parts_any Pa pn pc q0 200 rs minor B m d l Y k e b MK W (tab_b ht hW) hp (by rw [← hp.1]; exact hq8) hpin (hl.step hW) hm hls (hb.step hW) hk hke hee hmk
  generalize Rg.partsL MK (Frs.getL l Rg.ctR) (!(valuesL l Rg.ctR).isEmpty) b q0 = OUT at *
  generalize Frs.getL q Rg.rngR = V at *
  rw [hve2] at hG
  rw [hhT] at hHO
  clear hve2 hhT h190 hsp1 hpin
  dsimp only at hPC
  go_enter Tryz.func17, Tryz.ntmps17
  go_upto_region 1 with fail
  generalize (w.alloc (.cells #[.int .i64 200, .string (bs rs), .int .i64 minor, .slice B m d] 31)).alloc (.cells #[.int .i64 0, .string ⟨#[]⟩, .int .i64 0, .slice none 0 0] 31) = w2 at *
  go_wp2_with fail
  refine (hG.out _ hb0).mono ?_
  rintro x w3 ⟨rfl, hb3⟩
  have hr3 := row_keep hr2 hb3
  have hz3 := row_keep hz2 hb3
  replace hb0 := bnext hb0 hb3 hb0.size
  have hsz3 : w.heap.size + 2 ≤ w3.heap.size := Nat.le_trans hsz2 hb3.size
  clear hr2 hz2 hsz2 hb3 hG
  go_wp2_with fail
  refine (hPC.out _ hb0).mono ?_
  rintro x w4 ⟨A4, n4, c4, rfl, hP, hb4⟩
  have hr4 := row_keep hr3 hb4
  have hz4 := row_keep hz3 hb4
  replace hP := hP.mono (show w.heap.size + 2 ≤ w3.heap.size from hsz3)
  replace hb0 := bnext hb0 hb4 hb0.size
  have hsz4 : w.heap.size + 2 ≤ w4.heap.size := Nat.le_trans hsz3 hb4.size
  clear hr3 hz3 hsz3 hb4 hPC
  obtain ⟨a0, a1, a2, a3, -⟩ := row_facts4 hr4
  go_wp2_with fail
  refine (hHO.out _ hb0).mono ?_
  rintro x w4b ⟨rfl, hb4b⟩
  clear hHO a0 a1 a2 a3
  replace hr4 := row_keep hr4 hb4b
  replace hz4 := row_keep hz4 hb4b
  replace hP := hP.step hb4b
  replace hb0 := bnext hb0 hb4b hb0.size
  replace hsz4 : w.heap.size + 2 ≤ w4b.heap.size := Nat.le_trans hsz4 hb4b.size
  clear hb4b
  have hn4 : n4 = q0.length := hP.rd.1.symm
  have hn4b : ((n4 : Int) == 1) = false := by rw [beq_eq_false_iff_ne]; omega
  clear hn4
  have hP0 := hP
  have hB6 := alloc_below w4b (.cells #[.int .i64 206, .string (⟨#[80, 97, 114, 116, 105, 97, 108, 32, 67, 111, 110, 116, 101, 110, 116]⟩), .int .i64 minor, .slice none 0 0] 31)
  obtain ⟨a0, a1, a2, a3, -⟩ := row_facts4 hr4
  have hal6 := alloc_below w4b (.cells #[.int .i64 206, .string (⟨#[80, 97, 114, 116, 105, 97, 108, 32, 67, 111, 110, 116, 101, 110, 116]⟩), .int .i64 minor, .slice none 0 0] 31)
  have ho6 := heap_alloc_new w4b (.cells #[.int .i64 206, .string (⟨#[80, 97, 114, 116, 105, 97, 108, 32, 67, 111, 110, 116, 101, 110, 116]⟩), .int .i64 minor, .slice none 0 0] 31)
  go_upto_region 7 with fail
  clear a0 a1 a2 a3
  replace hr4 := row_keep hr4 hal6
  replace hz4 := row_keep hz4 hal6
  replace hP := hP.step hal6
  replace hb0 := bnext hb0 hal6 hb0.size
  have hsz6 : w.heap.size + 3 ≤ (w4b.alloc (.cells #[.int .i64 206, .string (⟨#[80, 97, 114, 116, 105, 97, 108, 32, 67, 111, 110, 116, 101, 110, 116]⟩), .int .i64 minor, .slice none 0 0] 31)).heap.size := by simp; omega
  have hg6 : w.heap.size + 2 ≤ w4b.heap.size := hsz4
  have hg6b : w4b.heap.size < (w4b.alloc (.cells #[.int .i64 206, .string (⟨#[80, 97, 114, 116, 105, 97, 108, 32, 67, 111, 110, 116, 101, 110, 116]⟩), .int .i64 minor, .slice none 0 0] 31)).heap.size := by simp
  clear hal6 hsz4
  generalize w4b.alloc (.cells #[.int .i64 206, .string (⟨#[80, 97, 114, 116, 105, 97, 108, 32, 67, 111, 110, 116, 101, 110, 116]⟩), .int .i64 minor, .slice none 0 0] 31) = w6 at *
  generalize hg6e9 : w4b.heap.size = g6 at *
  have hg6e : w4b.heap.size ≤ g6 := by omega
  have HG6 := Lib.hid hg6e9
  clear hg6e9
  clear hP
  go_wp2_with fail
  refine (HBY.out w6 hb0).mono ?_
  rintro x w7 ⟨rfl, hb7⟩
  have hr7 := row_keep hr4 hb7
  have hz7 := row_keep hz4 hb7
  have ho7 := row_keep ho6 hb7
  replace hb0 := bnext hb0 hb7 hb0.size
  replace hB6 := bnext hB6 hb7 (by omega)
  have hsz7 : g6 < w7.heap.size := Nat.lt_of_lt_of_le hg6b hb7.size
  clear hr4 hz4 ho6 hb7 hg6b hsz6 HBY
  obtain ⟨a0, a1, a2, a3, -⟩ := row_facts4 hr7
  have hal8 := alloc_below w7 (.cells #[.string (bs Rg.clP), .string (bs Rg.crP)] 9)
  have hC := without_own B (some ⟨w7.heap.size, 0, none⟩) m d 2 2 l [Rg.clP, Rg.crP] _ ((hl.step hb0).step hal8) (rdS_lit8 w7 [Rg.clP, Rg.crP] 9 _ rfl) (by omega) (by omega) hls.ok (by intro s hs; simp only [List.mem_cons, List.not_mem_nil, or_false] at hs; rcases hs with rfl | rfl <;> simp)
  have HWn : Hid ((withoutF l [Rg.clP, Rg.crP]).length ≤ m) := Lib.hid (by rw [← hl.1]; exact List.length_filter_le _ _)
  have HWo : Hid (FlenOK (withoutF l [Rg.clP, Rg.crP])) := Lib.hid (fun f hf => hls.ok f (List.mem_filter.1 hf).1)
  generalize withoutF l [Rg.clP, Rg.crP] = WF at *
  go_wp2_with fail
  refine hC.mono ?_
  rintro x w9 ⟨A9, n9, c9, rfl, hF, hb9⟩
  clear hC a0 a1 a2 a3
  replace hb9 := hal8.trans (hb9.mono hal8.size)
  have hr9 := row_keep hr7 hb9
  have hz9 := row_keep hz7 hb9
  have ho9 := row_keep ho7 hb9
  replace hb0 := bnext hb0 hb9 hb0.size
  replace hB6 := bnext hB6 hb9 (by omega)
  have hsz9 : g6 < w9.heap.size := Nat.lt_of_lt_of_le hsz7 hb9.size
  have hn9 : n9 ≤ 1048576 := by have := HWn.out; have := hF.rd.1; omega
  clear hr7 hz7 ho7 hb9 hal8 hsz7
  have hC := put_p A9 n9 c9 WF Rg.ctP (Rg.mulT ++ MK) w9 hF.rd (by omega) HWo.out (by decide)
  have hcat : (⟨#[109, 117, 108, 116, 105, 112, 97, 114, 116, 47, 98, 121, 116, 101, 114, 97, 110, 103, 101, 115, 59, 32, 98, 111, 117, 110, 100, 97, 114, 121, 61]⟩ : ByteArray) ++ bs MK = bs (Rg.mulT ++ MK) := by rw [← bs_append]; rfl
  generalize Rg.putF WF Rg.ctP (Rg.mulT ++ MK) = PF at *
  generalize Rg.mulT ++ MK = SD at *
  go_wp2_with fail
  refine hC.mono ?_
  rintro x w11 ⟨A11, n11, c11, rfl, hO, hb11⟩
  clear hC hF HWo HWn hcat
  have hr11 := row_keep hr9 hb11
  have hz11 := row_keep hz9 hb11
  have ho11 := row_keep ho9 hb11
  replace hb0 := bnext hb0 hb11 hb0.size
  replace hB6 := bnext hB6 hb11 (by omega)
  replace hO := hO.mono (show g6 + 1 ≤ w9.heap.size by omega)
  have hsz11 : g6 < w11.heap.size := Nat.lt_of_lt_of_le hsz9 hb11.size
  clear hr9 hz9 ho9 hb11 hsz9
  obtain ⟨p0, p1, p2, p3, f0, f1, f2, f3⟩ := row_facts4 ho11
  go_upto_region 17 with fail
  have ho12 := DA.heap_set ho11 3 (.slice A11 n11 c11)
  simp only [List.setIfInBounds_toArray, List.set_cons_zero, List.set_cons_succ] at ho12
  have hz12 := (DA.heap_rest (w := w11) (b := g6) (k := w.heap.size + 1) (by omega) 3 (.slice A11 n11 c11)).trans hz11
  have hr12 := (DA.heap_rest (w := w11) (b := g6) (k := w.heap.size) (by omega) 3 (.slice A11 n11 c11)).trans hr11
  have hb12 : Below w.heap.size w (w11.setCell ⟨g6, 3, none⟩ (.slice A11 n11 c11)) := hb0.setCell (by show w.heap.size ≤ g6; omega) _
  have hB12 : Below g6 w4b (w11.setCell ⟨g6, 3, none⟩ (.slice A11 n11 c11)) := hB6.setCell (Nat.le_refl _) _
  have hO12 : OwnF (w11.setCell ⟨g6, 3, none⟩ (.slice A11 n11 c11)) (g6 + 1) (.slice A11 n11 c11) PF := own_setG hO (by omega) _
  have hsz12 : g6 < (w11.setCell ⟨g6, 3, none⟩ (.slice A11 n11 c11)).heap.size := by rw [DA.size_set]; exact hsz11
  clear p0 p1 p2 p3 f0 f1 f2 f3 ho11 hz11 hb0 hO hr11 hB6 hsz11
  generalize w11.setCell ⟨g6, 3, none⟩ (.slice A11 n11 c11) = w12 at *
  have hP12 := hP0.step (hB12.mono hg6e)
  have ok : TrOK (w.heap.size + 1) [tB 5 111 (g6 + 1) OUT, tB 7 7 (g6 + 1) OUT] := tB_ok (by omega) (tB_ok (by omega) TrOK.nil)
  have hlt0 : w.heap.size < w12.heap.size := by omega
  have HB : Hid (∀ W, Gb (w.heap.size + 1) w12 W → Below w.heap.size w W) := Lib.hid fun W hG => hb12.trans (hG.below (by omega) (by omega))
  refine DA.wp_region (n := 8) (V := fun iop uop => match iop with | 0 => uop = .agg #[.int .i64 206, .string ⟨#[80, 97, 114, 116, 105, 97, 108, 32, 67, 111, 110, 116, 101, 110, 116]⟩, .int .i64 minor, .slice A11 n11 c11] | 1 => uop = .slice A4 n4 c4 | 2 => uop = .agg #[.int .i64 200, .string (bs rs), .int .i64 minor, .slice B m d] | 3 => uop = .slice Y k e | 4 => uop = .string (bs MK) | 5 => ∃ (A : Option Addr) (n c : Nat), uop = .slice A n c | 6 => uop = undef | 7 => ∃ (A : Option Addr) (n c : Nat), uop = .slice A n c | _ => uop = undef) (S := SR w12 (w.heap.size + 1) #[.int .i64 0, .string ⟨#[]⟩, .int .i64 0, .slice none 0 0] (fun _ => #[.int .i64 206, .string ⟨#[80, 97, 114, 116, 105, 97, 108, 32, 67, 111, 110, 116, 101, 110, 116]⟩, .int .i64 minor, .slice A11 n11 c11]) 31 0 6 106 112 [tB 5 111 (g6 + 1) OUT, tB 7 7 (g6 + 1) OUT]) (by kernel_rfl) rfl (SR.start rfl hz12) ?_
  refine' DA.Det.takeE (i := 0) (v := _) rfl (fun _ => Iff.rfl) (by kernel_rfl) (by kernel_rfl) (by kernel_rfl) (DA.YS.pure rfl rfl ?rpm0 ?spm0) ?npm0
  case rpm0 => intro a' L W hS; obtain ⟨k0, k1, k2, k3, -⟩ := row_facts4 ((hS.grow.block g6 hsz12 (by omega)).trans ho12); go_simp; first | rfl | skip
  case spm0 => exact fun a' L W hL h => (SR.other ok (by intro t ht; simp only [List.mem_cons, List.not_mem_nil, or_false] at ht; rcases ht with rfl | rfl <;> simp) (by decide) (by simp) hL h (Below.refl _ _))
  try simp only [Act.put, List.setIfInBounds_toArray, List.set_cons_zero, List.set_cons_succ]
  refine' DA.Det.takeE (i := 1) (v := _) rfl (fun _ => Iff.rfl) (by kernel_rfl) (by kernel_rfl) (by kernel_rfl) (DA.YS.pure rfl rfl ?rpm1 ?spm1) ?npm1
  case rpm1 => intro a' L W hS; go_simp; first | rfl | skip
  case spm1 => exact fun a' L W hL h => (SR.other ok (by intro t ht; simp only [List.mem_cons, List.not_mem_nil, or_false] at ht; rcases ht with rfl | rfl <;> simp) (by decide) (by simp) hL h (Below.refl _ _))
  try simp only [Act.put, List.setIfInBounds_toArray, List.set_cons_zero, List.set_cons_succ]
  refine' DA.Det.takeE (i := 2) (v := _) rfl (fun _ => Iff.rfl) (by kernel_rfl) (by kernel_rfl) (by kernel_rfl) (DA.YS.pure rfl rfl ?rpm2 ?spm2) ?npm2
  case rpm2 => intro a' L W hS; obtain ⟨k0, k1, k2, k3, -⟩ := row_facts4 ((hS.grow.block w.heap.size hlt0 (by omega)).trans hr12); go_simp; first | rfl | skip
  case spm2 => exact fun a' L W hL h => (SR.other ok (by intro t ht; simp only [List.mem_cons, List.not_mem_nil, or_false] at ht; rcases ht with rfl | rfl <;> simp) (by decide) (by simp) hL h (Below.refl _ _))
  try simp only [Act.put, List.setIfInBounds_toArray, List.set_cons_zero, List.set_cons_succ]
  refine' DA.Det.takeE (i := 3) (v := _) rfl (fun _ => Iff.rfl) (by kernel_rfl) (by kernel_rfl) (by kernel_rfl) (DA.YS.pure rfl rfl ?rpm3 ?spm3) ?npm3
  case rpm3 => intro a' L W hS; go_simp; first | rfl | skip
  case spm3 => exact fun a' L W hL h => (SR.other ok (by intro t ht; simp only [List.mem_cons, List.not_mem_nil, or_false] at ht; rcases ht with rfl | rfl <;> simp) (by decide) (by simp) hL h (Below.refl _ _))
  try simp only [Act.put, List.setIfInBounds_toArray, List.set_cons_zero, List.set_cons_succ]
  refine' DA.Det.takeE (i := 4) (v := _) rfl (fun _ => Iff.rfl) (by kernel_rfl) (by kernel_rfl) (by kernel_rfl) (DA.YS.pure rfl rfl ?rpm4 ?spm4) ?npm4
  case rpm4 => intro a' L W hS; go_simp; first | rfl | skip
  case spm4 => exact fun a' L W hL h => (SR.other ok (by intro t ht; simp only [List.mem_cons, List.not_mem_nil, or_false] at ht; rcases ht with rfl | rfl <;> simp) (by decide) (by simp) hL h (Below.refl _ _))
  try simp only [Act.put, List.setIfInBounds_toArray, List.set_cons_zero, List.set_cons_succ]
  refine' DA.Det.takeL (i := 5) rfl ⟨_, none, 0, 0, rfl⟩ (by kernel_rfl) (by kernel_rfl) (by kernel_rfl) (callE (f := _) (args := _) rfl ?rpm5 ?cpm5) ?npm5
  case rpm5 => intro W; go_simp; constructor <;> rfl
  case cpm5 =>
    intro a' L W he hL hd hS
    have hPW := OwnP.rd (own_gb hP12 (by omega) hS.grow)
    refine (HPT.out A4 n4 c4 W (HB.out W hS.grow) hPW).mono ?_
    rintro e w9 ⟨A9, n9, c9, rfl, ho9, hb9⟩
    have hR9 : (tB 5 111 (g6 + 1) OUT).R w9 (.slice A9 n9 c9) := ⟨A9, n9, c9, rfl, (ho9).mono (Nat.le_trans (show g6 + 1 ≤ w12.heap.size from hsz12) hS.grow.size)⟩
    exact ⟨_, rfl, ⟨A9, n9, c9, rfl⟩, SR.made (tB 5 111 (g6 + 1) OUT) ok (by intro t ht; simp only [List.mem_cons, List.not_mem_nil, or_false] at ht; rcases ht with rfl | rfl; exact .inl rfl; exact .inr (by simp)) (by simp) (by simp) (by simp) hL hS hb9 hR9⟩
  rintro v5 ⟨Am5, nm5, cm5, rfl⟩
  try simp only [Act.put, List.setIfInBounds_toArray, List.set_cons_zero, List.set_cons_succ]
  refine' DA.Det.takeE (i := 6) (v := undef) rfl (fun _ => Iff.rfl) (by kernel_rfl) (by kernel_rfl) (by kernel_rfl) (DA.YS.store (f := _) rfl rfl ?rpm6) ?npm6
  case rpm6 =>
    intro a' L W he hL hd hS
    have hbx := hS.box0 (DA.getD_un hL)
    have hiq := hd ⟨0, .data⟩ (by simp) (by kernel_rfl)
    obtain ⟨z0, z1, z2, z3, y0, y1, y2, y3⟩ := row_facts4 hbx
    constructor
    · go_simp; rfl
    · exact SR.stored (by intro t ht; simp only [List.mem_cons, List.not_mem_nil, or_false] at ht; rcases ht with rfl | rfl <;> simp) (by decide) hL hiq hS (slot_val (he (.tmp 106) (by simp [Op.operands, Call.operands])) (by simp [undef, Act.eval])) Gb.set4 (heap_set4 hbx) ok.set4
  try simp only [Act.put, List.setIfInBounds_toArray, List.set_cons_zero, List.set_cons_succ]
  refine' DA.Det.takeL (i := 7) rfl ⟨_, none, 0, 0, rfl⟩ (by kernel_rfl) (by kernel_rfl) (by kernel_rfl) (pureE (v := _) rfl ?rpm7 ?cpm7) ?npm7
  case rpm7 => intro W; go_simp; first | rfl | skip
  case cpm7 =>
    intro a' L W he hL hd hS
    have hR8 := hS.see (t := tB 5 111 (g6 + 1) OUT) (by simp) (hd ⟨5, .data⟩ (by simp) (by kernel_rfl)) (he (.tmp 111) (by simp [Op.operands, Call.operands])) (by simp [undef, Act.eval])
    obtain ⟨A8, n8, c8, e8, ho8⟩ := hR8
    have e8' : (Value.slice Am5 nm5 cm5) = .slice A8 n8 c8 := e8
    refine ⟨⟨_, _, _, rfl⟩, SR.made (tB 7 7 (g6 + 1) OUT) ok (by intro t ht; simp only [List.mem_cons, List.not_mem_nil, or_false] at ht; rcases ht with rfl | rfl; exact .inr (by simp); exact .inl rfl) (by simp) (by simp) (by simp) hL hS (Below.refl _ _) ⟨_, _, _, rfl, ?_⟩⟩
    rw [e8']; exact ho8
  rintro v7 ⟨Am7, nm7, cm7, rfl⟩
  try simp only [Act.put, List.setIfInBounds_toArray, List.set_cons_zero, List.set_cons_succ]
  refine DA.Det.done (by kernel_rfl) (fun W hS => ?_) _
  obtain ⟨u, -, hbx9⟩ := hS.box1 rfl
  obtain ⟨v7, e7, A10, n10, c10, hv, hO7⟩ := hS.row (tB 7 7 (g6 + 1) OUT) (by simp) rfl
  have e7' : (Value.slice Am7 nm7 cm7) = v7 := Option.some.inj e7
  subst hv
  rw [← e7'] at hO7
  have hF9 := own_gb hO12 (by omega) hS.grow
  have hW := HB.out _ hS.grow
  obtain ⟨c0, c1, c2, c3, -⟩ := row_facts4 hbx9
  clear hS e7 e7' hbx9 HB hO12
  go_wp2
  refine bodyPost_ret (v := .tuple #[.agg #[.int .i64 206, .string ⟨#[80, 97, 114, 116, 105, 97, 108, 32, 67, 111, 110, 116, 101, 110, 116]⟩, .int .i64 minor, .slice A11 n11 c11], .slice Am7 nm7 cm7]) (by simp [results, Tryz.results17, go_sem, c0, c1, c2, c3]) rfl ⟨_, _, _, _, _, _, by rw [HA.out]; rfl, ?_, ?_, hW⟩
  · rw [HA.out]; exact own_mono hF9 (by omega)
  · rw [HA.out]; exact own_mono hO7 (by omega)
end Go.Proofs.YtcaekfebnhedpaaGreatDoor
