/- Joined texts: The reference's Apply where no span lies within the bytes. The conditions stand in each line. -/
import Derived.Test.YtcaekfebnhedpaaGreatDoorM36
set_option linter.unusedVariables false
set_option linter.unusedSimpArgs false
namespace Go.Proofs.YtcaekfebnhedpaaGreatDoor
open Go.RowKit

set_option maxRecDepth 100000
theorem wf_fold (l : List Fld) (names : List (List UInt8)) : withoutF l (names.map fold) = withoutF l names := by
  unfold withoutF
  congr 1
  funext f
  rw [List.any_map]
  congr 2
  funext s
  show isB f (fold s) = isB f s
  unfold isB
  congr 1
  unfold fold
  rw [List.map_map]
  apply List.map_congr_left
  intro c _
  show low (low c) = low c
  by_cases h : 65 ≤ c.toNat ∧ c.toNat ≤ 90
  · apply low_no
    rw [low_yes h.1 h.2]
    omega
  · rw [low_no h, low_no h]
theorem rdS_lit7 (w : World) (l : List (List UInt8)) (t : TypeId) (cs : Array Value) (h : cs = (strs l).toArray) : RdS (w.alloc (.cells cs t)) (some ⟨w.heap.size, 0, none⟩) l.length l := by
  subst h
  refine ⟨rfl, by rw [strs_length]; omega, fun _ => ⟨w.heap.size, 0, rfl, by simp, fun j u hu => ?_⟩⟩
  rw [Nat.zero_add, cell_of_row _ _ _ _ t (0, 0) (heap_alloc_new w _)]
  simpa using hu
set_option maxHeartbeats 8000000 in
theorem rapply_unsat (A : Option Addr) (n c : Nat) (q : List Fld) (st : Int) (rs : List UInt8) (minor : Int) (B : Option Addr) (m d : Nat) (l : List Fld) (Y : Option Addr) (k e : Nat) (b : List UInt8) (w : World) (ht : Tab w) (hM : MaxL w)
    (hq : RdF w A n q) (hn : n ≤ 1048576) (hqs : FlenS q) (hqj : (Frs.getL q Rg.rngR).length ≤ 1073741824) (hl : RdF w B m l) (hm : m ≤ 1048576) (hls : FlenS l) (hb : RdB w Y k b) (hk : k ≤ 4194304) (hke : k ≤ e) (hee : e ≤ maxLen) (has : ¬ Rg.asIs q st l b) (her : (Rg.parseL (Frs.getL q Rg.rngR) b.length).2 = 191) :
    Calls Tryz.prog 18 #[.slice A n c, respV st rs minor B m d, .slice Y k e] w fun x w' => ApOut w minor (Rg.unsatA l b) x w' := by
  unfold respV
  have hee2 : (e : Int) ≤ 9223372036854775807 := by unfold maxLen at hee; omega
  have hb1 := alloc_below w (.cells #[.int .i64 st, .string (bs rs), .int .i64 minor, .slice B m d] 31)
  have hr1 := heap_alloc_new w (.cells #[.int .i64 st, .string (bs rs), .int .i64 minor, .slice B m d] 31)
  have hb2 := alloc_below (w.alloc (.cells #[.int .i64 st, .string (bs rs), .int .i64 minor, .slice B m d] 31)) (.cells #[.int .i64 0, .string ⟨#[]⟩, .int .i64 0, .slice none 0 0] 31)
  have hz2 := heap_alloc_new (w.alloc (.cells #[.int .i64 st, .string (bs rs), .int .i64 minor, .slice B m d] 31)) (.cells #[.int .i64 0, .string ⟨#[]⟩, .int .i64 0, .slice none 0 0] 31)
  rw [show (w.alloc (.cells #[.int .i64 st, .string (bs rs), .int .i64 minor, .slice B m d] 31)).heap.size = w.heap.size + 1 by simp] at hz2
  have hr2 := row_keep hr1 hb2
  have hb0 := bnext hb1 hb2 hb1.size
  have hsz2 : w.heap.size + 2 ≤ ((w.alloc (.cells #[.int .i64 st, .string (bs rs), .int .i64 minor, .slice B m d] 31)).alloc (.cells #[.int .i64 0, .string ⟨#[]⟩, .int .i64 0, .slice none 0 0] 31)).heap.size := by simp
  have hG : Hid (∀ W, Below w.heap.size w W → Calls Tryz.prog 43 #[.slice A n c, .string (bs Rg.rngR)] W fun x w' => x = .returned (.tuple #[.string (bs (Frs.getL q Rg.rngR)), .bool (!(valuesL q Rg.rngR).isEmpty)]) ∧ Below W.heap.size W w') := Lib.hid fun W hW => by
    have h := getR_any A n c q Rg.rngR W (hq.step hW) hn hqs (by decide)
    change Calls Tryz.prog 43 _ _ fun x w' => x = .returned (.tuple #[.string (bs (Frs.getL q Rg.rngR)), .bool (!(valuesL q Rg.rngR).isEmpty)]) ∧ _ at h
    rw [show Frs.getL q Rg.rngR = Frs.getL q Rg.rngR from Frs.get_name rfl, show valuesL q Rg.rngR = valuesL q Rg.rngR from valuesL_nameG rfl] at h
    exact h
  clear hr1 hb1 hb2
  have hPC : Hid (∀ W, Below w.heap.size w W → Calls Tryz.prog 12 #[.string (bs (Frs.getL q Rg.rngR)), .int .i64 (k : Int)] W fun x w' => RgOut W (Frs.getL q Rg.rngR) (k : Int) x w') := Lib.hid fun W hW => parse19_r (Frs.getL q Rg.rngR) (k : Int) W (maxl_b hM hW) hqj (by omega) (by omega)
  unfold RgOut at hPC
  have hHO : Hid (∀ W, Below w.heap.size w W → Calls Tryz.prog 44 #[.slice A n c, .agg #[.int .i64 st, .string (bs rs), .int .i64 minor, .slice B m d]] W fun x w' => x = .returned (.bool (Rg.holdsL q l)) ∧ Below W.heap.size W w') := Lib.hid fun W hW => holds_r A n c q st rs minor B m d l W (hq.step hW) hn hqs (hl.step hW) hm hls
  have h200 : st = 200 := Classical.byContradiction fun h => has (.inl h)
  have hvne : valuesL q Rg.rngR ≠ [] := fun h => has (.inr (.inl h))
  have h190 : (Rg.parseL (Frs.getL q Rg.rngR) b.length).2 ≠ 190 := fun h => has (.inr (.inr (.inl h)))
  have hhT : Rg.holdsL q l = true := by
    cases h : Rg.holdsL q l with
    | true => rfl
    | false => exact absurd (.inr (.inr (.inr h))) has
  have hbl := hb.1
  rw [hbl] at h190
  have hve2 : (!(valuesL q Rg.rngR).isEmpty) = true := by
    cases h : valuesL q Rg.rngR with
    | nil => exact absurd h hvne
    | cons x r => rfl
  subst h200
  clear has hvne
  rw [hbl] at her
  rw [hve2] at hG
  rw [hhT] at hHO
  generalize Rg.parseL (Frs.getL q Rg.rngR) (k : Int) = PL at *
  obtain ⟨sp, er⟩ := PL
  generalize Frs.getL q Rg.rngR = V at *
  clear hve2 hhT
  dsimp only at *
  subst her
  clear h190
  have HA : Hid (Rg.unsatA l b = ⟨416, Rg.unsatT, Rg.putF (withoutF l [Rg.clP, Rg.ctP]) Rg.crP (Rg.starT ++ Lib.decDigits k), []⟩) := Lib.hid (by unfold Rg.unsatA; rw [hbl])
  generalize Rg.unsatA l b = AN at *
  go_enter Tryz.func18, Tryz.ntmps18
  go_upto_region 1 with fail
  generalize (w.alloc (.cells #[.int .i64 200, .string (bs rs), .int .i64 minor, .slice B m d] 31)).alloc (.cells #[.int .i64 0, .string ⟨#[]⟩, .int .i64 0, .slice none 0 0] 31) = w2 at *
  obtain ⟨a0, a1, a2, a3, -⟩ := row_facts4 hr2
  have hC := copyResponse_own 200 rs minor B m d l w2 (hl.step hb0) (by omega)
  unfold respV at hC
  go_wp2_with fail
  refine hC.mono ?_
  rintro x w2b ⟨Ac, nc, cc, rfl, hW8, hb2b⟩
  clear hC a0 a1 a2 a3
  replace hr2 := row_keep hr2 hb2b
  replace hz2 := row_keep hz2 hb2b
  replace hb0 := bnext hb0 hb2b hb0.size
  replace hW8 := hW8.mono (show w.heap.size + 2 ≤ w2.heap.size from hsz2)
  replace hsz2 : w.heap.size + 2 ≤ w2b.heap.size := Nat.le_trans hsz2 hb2b.size
  clear hb2b
  have hal8 := alloc_below w2b (.cells #[.int .i64 200, .string (bs rs), .int .i64 minor, .slice Ac nc cc] 31)
  have h82 := heap_alloc_new w2b (.cells #[.int .i64 200, .string (bs rs), .int .i64 minor, .slice Ac nc cc] 31)
  have hg8a : w2b.heap.size < (w2b.alloc (.cells #[.int .i64 200, .string (bs rs), .int .i64 minor, .slice Ac nc cc] 31)).heap.size := by simp
  go_upto_region 2 with fail
  replace hr2 := row_keep hr2 hal8
  replace hz2 := row_keep hz2 hal8
  replace hW8 := hW8.step hal8
  replace hb0 := bnext hb0 hal8 hb0.size
  clear hal8
  generalize w2b.alloc (.cells #[.int .i64 200, .string (bs rs), .int .i64 minor, .slice Ac nc cc] 31) = w2c at *
  generalize w2b.heap.size = g8 at *
  go_wp2_with fail
  refine (hG.out _ hb0).mono ?_
  rintro x w3 ⟨rfl, hb3⟩
  have hr3 := row_keep hr2 hb3
  have hz3 := row_keep hz2 hb3
  have h83 := row_keep h82 hb3
  replace hW8 := hW8.step hb3
  replace hb0 := bnext hb0 hb3 hb0.size
  have hg8b : g8 < w3.heap.size := Nat.lt_of_lt_of_le hg8a hb3.size
  clear hr2 hz2 h82 hg8a hb3 hG
  go_wp2_with fail
  refine (hPC.out _ hb0).mono ?_
  rintro x w4 ⟨A4, n4, c4, rfl, hP, hb4⟩
  have hr4 := row_keep hr3 hb4
  have hz4 := row_keep hz3 hb4
  have h84 := row_keep h83 hb4
  replace hW8 := hW8.step hb4
  replace hP := hP.mono (show g8 + 1 ≤ w3.heap.size by omega)
  replace hb0 := bnext hb0 hb4 hb0.size
  have hg8 : g8 < w4.heap.size := Nat.lt_of_lt_of_le hg8b hb4.size
  clear hr3 hz3 h83 hg8b hb4 hPC
  obtain ⟨a0, a1, a2, a3, -⟩ := row_facts4 hr4
  go_wp2_with fail
  refine (hHO.out _ hb0).mono ?_
  rintro x w4b ⟨rfl, hb4b⟩
  clear hHO a0 a1 a2 a3
  replace hr4 := row_keep hr4 hb4b
  replace hz4 := row_keep hz4 hb4b
  replace h84 := row_keep h84 hb4b
  replace hW8 := hW8.step hb4b
  replace hP := hP.step hb4b
  replace hb0 := bnext hb0 hb4b hb0.size
  replace hg8 : g8 < w4b.heap.size := Nat.lt_of_lt_of_le hg8 hb4b.size
  clear hb4b
  clear hP h84 hW8
  obtain ⟨a0, a1, a2, a3, -⟩ := row_facts4 hr4
  have hal5 := alloc_below w4b (.cells #[.string (bs Rg.clR), .string (bs Rg.ctR)] 9)
  have hC := rwithout_own B (some ⟨w4b.heap.size, 0, none⟩) m d 2 2 l [Rg.clR, Rg.ctR] _ ((hl.step hb0).step hal5) (rdS_lit7 w4b [Rg.clR, Rg.ctR] 9 _ rfl) (by omega) (by omega) hls.ok (by intro s hs; simp only [List.mem_cons, List.not_mem_nil, or_false] at hs; rcases hs with rfl | rfl <;> simp)
  rw [show ([Rg.clR, Rg.ctR] : List (List UInt8)) = [Rg.clP, Rg.ctP].map fold from by decide, wf_fold] at hC
  have HWn : Hid ((withoutF l [Rg.clP, Rg.ctP]).length ≤ m) := Lib.hid (by rw [← hl.1]; exact List.length_filter_le _ _)
  have HWo : Hid (FlenOK (withoutF l [Rg.clP, Rg.ctP])) := Lib.hid (fun f hf => hls.ok f (List.mem_filter.1 hf).1)
  generalize withoutF l [Rg.clP, Rg.ctP] = WF at *
  go_wp2_with fail
  refine hC.mono ?_
  rintro x w5 ⟨A5, n5, c5, rfl, hF, hb5⟩
  clear hC a0 a1 a2 a3
  replace hb5 := hal5.trans (hb5.mono hal5.size)
  replace hr4 := row_keep hr4 hb5
  replace hz4 := row_keep hz4 hb5
  replace hb0 := bnext hb0 hb5 hb0.size
  replace hF := hF.mono (show g8 + 1 ≤ (w4b.alloc (.cells #[.string (bs Rg.clR), .string (bs Rg.ctR)] 9)).heap.size by simp; omega)
  have hsz5 : g8 + 1 ≤ w5.heap.size := by have := hb5.size; omega
  have hn5 : n5 ≤ 1048576 := by have := HWn.out; have := hF.rd.1; omega
  clear hb5 hal5 hg8
  have hD := dec_len (k := k) (by omega)
  have HSH := Lib.hid fun W => show_pos k W (by omega)
  generalize Lib.decDigits k = D at *
  have hcat : (⟨#[98, 121, 116, 101, 115, 32, 42, 47]⟩ : ByteArray) ++ bs D = bs (Rg.starT ++ D) := by rw [← bs_append]; rfl
  have HPU : Hid (∀ W, RdF W A5 n5 WF → Calls Tryz.prog 46 #[.slice A5 n5 c5, .string (bs Rg.crP), .string (bs (Rg.starT ++ D))] W fun x w' => ∃ A' n' c', x = .returned (.slice A' n' c') ∧ OwnF w' W.heap.size (.slice A' n' c') (Rg.putF WF Rg.crP (Rg.starT ++ D)) ∧ Below W.heap.size W w') := Lib.hid fun W hr => put_r A5 n5 c5 WF Rg.crP (Rg.starT ++ D) W hr (by omega) HWo.out (by decide)
  generalize Rg.putF WF Rg.crP (Rg.starT ++ D) = PF at *
  generalize Rg.starT ++ D = SD at *
  go_upto_region 8 with fail
  have ok : TrOK (w.heap.size + 1) [tF 7 70 (g8 + 1) PF, tQ 8 71 (g8 + 1) 416 Rg.unsatT minor PF] := tF_ok (by omega) (tQ_ok (by omega) TrOK.nil)
  have hlt0 : w.heap.size < w5.heap.size := by omega
  have HB : Hid (∀ W, Gb (w.heap.size + 1) w5 W → Below w.heap.size w W) := Lib.hid fun W hG => hb0.trans (hG.below (by omega) (by omega))
  refine DA.wp_region (n := 11) (V := fun iop uop => match iop with | 0 => uop = .pointer (some ⟨w.heap.size, 2, none⟩) | 1 => uop = .int .i64 minor | 2 => uop = .slice A5 n5 c5 | 3 => uop = .slice Y k e | 4 => uop = .int .i64 (k : Int) | 5 => uop = .string (bs D) | 6 => uop = .string (bs SD) | 7 => ∃ (A : Option Addr) (n c : Nat), uop = .slice A n c | 8 => ∃ (A : Option Addr) (n c : Nat), uop = .agg #[.int .i64 416, .string (bs Rg.unsatT), .int .i64 minor, .slice A n c] | 9 => uop = undef | 10 => uop = .slice none 0 0 | _ => uop = undef) (S := SR w5 (w.heap.size + 1) #[.int .i64 0, .string ⟨#[]⟩, .int .i64 0, .slice none 0 0] (fun v => v.cells) 31 8 9 71 186 [tF 7 70 (g8 + 1) PF, tQ 8 71 (g8 + 1) 416 Rg.unsatT minor PF]) (by kernel_rfl) rfl (SR.start rfl hz4) ?_
  refine' DA.Det.takeE (i := 0) (v := _) rfl (fun _ => Iff.rfl) (by kernel_rfl) (by kernel_rfl) (by kernel_rfl) (DA.YS.pure rfl rfl ?rpu0 ?spu0) ?npu0
  case rpu0 => intro a' L W hS; go_simp; first | rfl | skip
  case spu0 => exact fun a' L W hL h => (SR.other ok (by intro t ht; simp only [List.mem_cons, List.not_mem_nil, or_false] at ht; rcases ht with rfl | rfl <;> simp) (by decide) (by simp) hL h (Below.refl _ _))
  try simp only [Act.put, List.setIfInBounds_toArray, List.set_cons_zero, List.set_cons_succ]
  refine' DA.Det.takeE (i := 1) (v := _) rfl (fun _ => Iff.rfl) (by kernel_rfl) (by kernel_rfl) (by kernel_rfl) (DA.YS.pure rfl rfl ?rpu1 ?spu1) ?npu1
  case rpu1 => intro a' L W hS; obtain ⟨k0, k1, k2, k3, -⟩ := row_facts4 ((hS.grow.block w.heap.size hlt0 (by omega)).trans hr4); go_simp; first | rfl | skip
  case spu1 => exact fun a' L W hL h => (SR.other ok (by intro t ht; simp only [List.mem_cons, List.not_mem_nil, or_false] at ht; rcases ht with rfl | rfl <;> simp) (by decide) (by simp) hL h (Below.refl _ _))
  try simp only [Act.put, List.setIfInBounds_toArray, List.set_cons_zero, List.set_cons_succ]
  refine' DA.Det.takeE (i := 2) (v := _) rfl (fun _ => Iff.rfl) (by kernel_rfl) (by kernel_rfl) (by kernel_rfl) (DA.YS.pure rfl rfl ?rpu2 ?spu2) ?npu2
  case rpu2 => intro a' L W hS; go_simp; first | rfl | skip
  case spu2 => exact fun a' L W hL h => (SR.other ok (by intro t ht; simp only [List.mem_cons, List.not_mem_nil, or_false] at ht; rcases ht with rfl | rfl <;> simp) (by decide) (by simp) hL h (Below.refl _ _))
  try simp only [Act.put, List.setIfInBounds_toArray, List.set_cons_zero, List.set_cons_succ]
  refine' DA.Det.takeE (i := 3) (v := _) rfl (fun _ => Iff.rfl) (by kernel_rfl) (by kernel_rfl) (by kernel_rfl) (DA.YS.pure rfl rfl ?rpu3 ?spu3) ?npu3
  case rpu3 => intro a' L W hS; go_simp; first | rfl | skip
  case spu3 => exact fun a' L W hL h => (SR.other ok (by intro t ht; simp only [List.mem_cons, List.not_mem_nil, or_false] at ht; rcases ht with rfl | rfl <;> simp) (by decide) (by simp) hL h (Below.refl _ _))
  try simp only [Act.put, List.setIfInBounds_toArray, List.set_cons_zero, List.set_cons_succ]
  refine' DA.Det.takeE (i := 4) (v := _) rfl (fun _ => Iff.rfl) (by kernel_rfl) (by kernel_rfl) (by kernel_rfl) (DA.YS.pure rfl rfl ?rpu4 ?spu4) ?npu4
  case rpu4 => intro a' L W hS; go_simp; first | rfl | skip
  case spu4 => exact fun a' L W hL h => (SR.other ok (by intro t ht; simp only [List.mem_cons, List.not_mem_nil, or_false] at ht; rcases ht with rfl | rfl <;> simp) (by decide) (by simp) hL h (Below.refl _ _))
  try simp only [Act.put, List.setIfInBounds_toArray, List.set_cons_zero, List.set_cons_succ]
  refine' DA.Det.takeE (i := 5) (v := _) rfl (fun _ => Iff.rfl) (by kernel_rfl) (by kernel_rfl) (by kernel_rfl) (DA.YS.call (f := _) (args := _) rfl ?rpu5 ?cpu5) ?npu5
  case rpu5 => intro W; go_simp; constructor <;> rfl
  case cpu5 =>
    intro a' L W hL hS
    refine (HSH.out W).mono ?_
    rintro e w9 ⟨rfl, hb9⟩
    exact ⟨_, rfl, rfl, (SR.other ok (by intro t ht; simp only [List.mem_cons, List.not_mem_nil, or_false] at ht; rcases ht with rfl | rfl <;> simp) (by decide) (by simp) hL hS hb9)⟩
  try simp only [Act.put, List.setIfInBounds_toArray, List.set_cons_zero, List.set_cons_succ]
  refine' DA.Det.takeE (i := 6) (v := _) rfl (fun _ => Iff.rfl) (by kernel_rfl) (by kernel_rfl) (by kernel_rfl) (DA.YS.pure rfl rfl ?rpu6 ?spu6) ?npu6
  case rpu6 => intro a' L W hS; go_simp; first | omega | rfl | skip
  case spu6 => exact fun a' L W hL h => (SR.other ok (by intro t ht; simp only [List.mem_cons, List.not_mem_nil, or_false] at ht; rcases ht with rfl | rfl <;> simp) (by decide) (by simp) hL h (Below.refl _ _))
  try simp only [Act.put, List.setIfInBounds_toArray, List.set_cons_zero, List.set_cons_succ]
  refine' DA.Det.takeL (i := 7) rfl ⟨_, none, 0, 0, rfl⟩ (by kernel_rfl) (by kernel_rfl) (by kernel_rfl) (callE (f := _) (args := _) rfl ?rpu7 ?cpu7) ?npu7
  case rpu7 => intro W; go_simp; constructor <;> rfl
  case cpu7 =>
    intro a' L W he hL hd hS
    refine (HPU.out W (OwnF.rd (own_gb hF (by omega) hS.grow))).mono ?_
    rintro e w9 ⟨A9, n9, c9, rfl, ho9, hb9⟩
    have hR9 : (tF 7 70 (g8 + 1) PF).R w9 (.slice A9 n9 c9) := ⟨A9, n9, c9, rfl, (ho9).mono (Nat.le_trans hsz5 hS.grow.size)⟩
    exact ⟨_, rfl, ⟨A9, n9, c9, rfl⟩, SR.made (tF 7 70 (g8 + 1) PF) ok (by intro t ht; simp only [List.mem_cons, List.not_mem_nil, or_false] at ht; rcases ht with rfl | rfl; exact .inl rfl; exact .inr (by simp)) (by simp) (by simp) (by simp) hL hS hb9 hR9⟩
  rintro v7 ⟨Au7, nu7, cu7, rfl⟩
  try simp only [Act.put, List.setIfInBounds_toArray, List.set_cons_zero, List.set_cons_succ]
  refine' DA.Det.takeL (i := 8) rfl ⟨_, none, 0, 0, rfl⟩ (by kernel_rfl) (by kernel_rfl) (by kernel_rfl) (pureE (v := _) rfl ?rpu8 ?cpu8) ?npu8
  case rpu8 => intro W; go_simp; first | rfl | skip
  case cpu8 =>
    intro a' L W he hL hd hS
    have hR8 := hS.see (t := tF 7 70 (g8 + 1) PF) (by simp) (hd ⟨7, .data⟩ (by simp) (by kernel_rfl)) (he (.tmp 70) (by simp [Op.operands, Call.operands])) (by simp [undef, Act.eval])
    obtain ⟨A8, n8, c8, e8, ho8⟩ := hR8
    have e8' : (Value.slice Au7 nu7 cu7) = .slice A8 n8 c8 := e8
    refine ⟨⟨_, _, _, rfl⟩, SR.made (tQ 8 71 (g8 + 1) 416 Rg.unsatT minor PF) ok (by intro t ht; simp only [List.mem_cons, List.not_mem_nil, or_false] at ht; rcases ht with rfl | rfl; exact .inr (by simp); exact .inl rfl) (by simp) (by simp) (by simp) hL hS (Below.refl _ _) ⟨_, _, _, rfl, ?_⟩⟩
    rw [e8']; exact ho8
  rintro v8 ⟨Au8, nu8, cu8, rfl⟩
  try simp only [Act.put, List.setIfInBounds_toArray, List.set_cons_zero, List.set_cons_succ]
  refine' DA.Det.takeE (i := 9) (v := undef) rfl (fun _ => Iff.rfl) (by kernel_rfl) (by kernel_rfl) (by kernel_rfl) (DA.YS.store (f := _) rfl rfl ?rpu9) ?npu9
  case rpu9 =>
    intro a' L W he hL hd hS
    have hbx := hS.box0 (DA.getD_un hL)
    have hiq := hd ⟨8, .data⟩ (by simp) (by kernel_rfl)
    obtain ⟨z0, z1, z2, z3, y0, y1, y2, y3⟩ := row_facts4 hbx
    constructor
    · go_simp; rfl
    · exact SR.stored (by intro t ht; simp only [List.mem_cons, List.not_mem_nil, or_false] at ht; rcases ht with rfl | rfl <;> simp) (by decide) hL hiq hS (slot_val (he (.tmp 71) (by simp [Op.operands, Call.operands])) (by simp [undef, Act.eval])) Gb.set4 (heap_set4 hbx) ok.set4
  try simp only [Act.put, List.setIfInBounds_toArray, List.set_cons_zero, List.set_cons_succ]
  refine' DA.Det.takeE (i := 10) (v := _) rfl (fun _ => Iff.rfl) (by kernel_rfl) (by kernel_rfl) (by kernel_rfl) (DA.YS.pure rfl rfl ?rpu10 ?spu10) ?npu10
  case rpu10 => intro a' L W hS; go_simp; first | rfl | skip
  case spu10 => exact fun a' L W hL h => (SR.other ok (by intro t ht; simp only [List.mem_cons, List.not_mem_nil, or_false] at ht; rcases ht with rfl | rfl <;> simp) (by decide) (by simp) hL h (Below.refl _ _))
  try simp only [Act.put, List.setIfInBounds_toArray, List.set_cons_zero, List.set_cons_succ]
  refine DA.Det.done (by kernel_rfl) (fun W hS => ?_) _
  obtain ⟨u, e71, hbx⟩ := hS.box1 rfl
  have e71' : (Value.agg #[.int .i64 416, .string (bs Rg.unsatT), .int .i64 minor, .slice Au8 nu8 cu8]) = u := Option.some.inj e71
  subst e71'
  have hbx : W.heap[w.heap.size + 1]? = some (.cells #[.int .i64 416, .string (bs Rg.unsatT), .int .i64 minor, .slice Au8 nu8 cu8] 31 (0, 0)) := hbx
  obtain ⟨v8, e8, A9, n9, c9, hv, hO⟩ := hS.row (tQ 8 71 (g8 + 1) 416 Rg.unsatT minor PF) (by simp) rfl
  have e8' : (Value.agg #[.int .i64 416, .string (bs Rg.unsatT), .int .i64 minor, .slice Au8 nu8 cu8]) = v8 := Option.some.inj e8
  subst hv
  simp only [Value.agg.injEq, Array.mk.injEq, List.cons.injEq, Value.slice.injEq, and_true, true_and] at e8'
  obtain ⟨rfl, rfl, rfl⟩ := e8'
  have hW := HB.out W hS.grow
  obtain ⟨c0, c1, c2, c3, -⟩ := row_facts4 hbx
  clear hS e71 e8 hbx HB hr4 hz4
  go_wp2
  refine bodyPost_ret (v := .tuple #[.agg #[.int .i64 416, .string (bs Rg.unsatT), .int .i64 minor, .slice Au8 nu8 cu8], .slice none 0 0]) (by simp [results, Tryz.results18, go_sem, c0, c1, c2, c3]) rfl ⟨_, _, _, none, 0, 0, by rw [HA.out]; rfl, ?_, ?_, hW⟩
  · rw [HA.out]; exact own_mono hO (by omega)
  · rw [HA.out]; exact OwnB.nil _ _
end Go.Proofs.YtcaekfebnhedpaaGreatDoor
