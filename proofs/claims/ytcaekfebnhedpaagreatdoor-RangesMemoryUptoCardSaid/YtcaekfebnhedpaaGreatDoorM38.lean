/- Joined texts: The reference's Apply where one span is asked for. The conditions stand in each line. -/
import Derived.Test.YtcaekfebnhedpaaGreatDoorM37
set_option linter.unusedVariables false
set_option linter.unusedSimpArgs false
namespace Go.Proofs.YtcaekfebnhedpaaGreatDoor
open Go.RowKit

set_option maxRecDepth 100000
set_option maxHeartbeats 8000000 in
theorem rapply_one (A : Option Addr) (n c : Nat) (q : List Fld) (st : Int) (rs : List UInt8) (minor : Int) (B : Option Addr) (m d : Nat) (l : List Fld) (Y : Option Addr) (k e : Nat) (b : List UInt8) (w : World) (ht : Tab w) (hM : MaxL w)
    (hq : RdF w A n q) (hn : n ≤ 1048576) (hqs : FlenS q) (hqj : (Frs.getL q Rg.rngR).length ≤ 1073741824) (hl : RdF w B m l) (hm : m ≤ 1048576) (hls : FlenS l) (hb : RdB w Y k b) (hk : k ≤ 4194304) (hke : k ≤ e) (hee : e ≤ maxLen) (p : Rg.Sp) (has : ¬ Rg.asIs q st l b) (hsp1 : Rg.parseL (Frs.getL q Rg.rngR) b.length = ([p], 0)) (hpin : 0 ≤ p.1 ∧ p.1 ≤ p.2 ∧ p.2 < (b.length : Int)) :
    Calls Tryz.prog 18 #[.slice A n c, respV st rs minor B m d, .slice Y k e] w fun x w' => ApOut w minor (Rg.oneA l b p) x w' := by
  unfold respV
  have hee2 : (e : Int) ≤ 9223372036854775807 := by unfold maxLen at hee; omega
  have hb1 := alloc_below w (.cells #[.int .i64 st, .string (bs rs), .int .i64 minor, .slice B m d] 31)
  have hr1 := heap_alloc_new w (.cells #[.int .i64 st, .string (bs rs), .int .i64 minor, .slice B m d] 31)
  have hb2 := alloc_below (w.alloc (.cells #[.int .i64 st, .string (bs rs), .int .i64 minor, .slice B m d] 31)) (.cells #[.int .i64 0, .string ⟨#[]⟩, .int .i64 0, .slice none 0 0] 31)
  have hz2 := heap_alloc_new (w.alloc (.cells #[.int .i64 st, .string (bs rs), .int .i64 minor, .slice B m d] 31)) (.cells #[.int .i64 0, .string ⟨#[]⟩, .int .i64 0, .slice none 0 0] 31)
  rw [show (w.alloc (.cells #[.int .i64 st, .string (bs rs), .int .i64 minor, .slice B m d] 31)).heap.size = w.heap.size + 1 by simp] at hz2
  have hr2 := row_keep hr1 hb2
  have hb0 := bnext hb1 hb2 hb1.size
  have hsz2 : w.heap.size + 2 ≤ ((w.alloc (.cells #[.int .i64 st, .string (bs rs), .int .i64 minor, .slice B m d] 31)).alloc (.cells #[.int .i64 0, .string ⟨#[]⟩, .int .i64 0, .slice none 0 0] 31)).heap.size := by simp
  have hG : Hid (∀ W, Below w.heap.size w W → Calls Tryz.prog 43 #[.slice A n c, .string (bs Rg.rngR)] W fun x w' => x = .returned (.tuple #[.string (bs (Frs.getL q Rg.rngR)), .bool (!(valuesL q Rg.rngR).isEmpty)]) ∧ Below W.heap.size W w') := Lib.hid fun W hW => by
    have h := getR_any A n c q Rg.rngR W (hq.step hW) hn hqs (by decide)
    change Calls Tryz.prog 43 _ _ fun x w' => x = .returned (.tuple #[.string (bs (Frs.getL q Rg.rngR)), .bool (!(valuesL q Rg.rngR).isEmpty)]) ∧ _ at h
    rw [show Frs.getL q Rg.rngR = Frs.getL q Rg.rngR from Frs.get_name rfl, show valuesL q Rg.rngR = valuesL q Rg.rngR from valuesL_nameG rfl] at h
    exact h
  clear hr1 hb1 hb2
  have hPC : Hid (∀ W, Below w.heap.size w W → Calls Tryz.prog 12 #[.string (bs (Frs.getL q Rg.rngR)), .int .i64 (k : Int)] W fun x w' => RgOut W (Frs.getL q Rg.rngR) (k : Int) x w') := Lib.hid fun W hW => parse19_r (Frs.getL q Rg.rngR) (k : Int) W (maxl_b hM hW) hqj (by omega) (by omega)
  unfold RgOut at hPC
  have hHO : Hid (∀ W, Below w.heap.size w W → Calls Tryz.prog 44 #[.slice A n c, .agg #[.int .i64 st, .string (bs rs), .int .i64 minor, .slice B m d]] W fun x w' => x = .returned (.bool (Rg.holdsL q l)) ∧ Below W.heap.size W w') := Lib.hid fun W hW => holds_r A n c q st rs minor B m d l W (hq.step hW) hn hqs (hl.step hW) hm hls
  have h200 : st = 200 := Classical.byContradiction fun h => has (.inl h)
  have hvne : valuesL q Rg.rngR ≠ [] := fun h => has (.inr (.inl h))
  have h190 : (Rg.parseL (Frs.getL q Rg.rngR) b.length).2 ≠ 190 := fun h => has (.inr (.inr (.inl h)))
  have hhT : Rg.holdsL q l = true := by
    cases h : Rg.holdsL q l with
    | true => rfl
    | false => exact absurd (.inr (.inr (.inr h))) has
  have hbl := hb.1
  rw [hbl] at h190
  have hve2 : (!(valuesL q Rg.rngR).isEmpty) = true := by
    cases h : valuesL q Rg.rngR with
    | nil => exact absurd h hvne
    | cons x r => rfl
  subst h200
  clear has hvne
  rw [hbl] at hsp1 hpin
  have HA : Hid (Rg.oneA l b p = ⟨206, Rg.partT, Rg.putF (withoutF l [Rg.clP]) Rg.crP (Rg.placeL p k), Rg.pieceL p b⟩) := Lib.hid (by unfold Rg.oneA; rw [hbl])
  generalize Rg.oneA l b p = AN at *
  obtain ⟨x, y⟩ := p
  dsimp only at hpin
  obtain ⟨x0, x1, x2⟩ := hpin
  obtain ⟨i, rfl⟩ : ∃ i : Nat, x = i := ⟨x.toNat, by omega⟩
  obtain ⟨j, rfl⟩ : ∃ j : Nat, y = j := ⟨y.toNat, by omega⟩
  have HPC : Hid (Rg.pieceL ((i : Int), (j : Int)) b = (b.drop i).take (j + 1 - i)) := Lib.hid (by unfold Rg.pieceL; simp)
  have HPL : Hid (∀ W, Calls Tryz.prog 47 #[.agg #[.int .i64 (i : Int), .int .i64 (j : Int)], .int .i64 (k : Int)] W fun e w' => e = .returned (.string (bs (Rg.placeL ((i : Int), (j : Int)) k))) ∧ Below W.heap.size W w') := Lib.hid fun W => place_r i j k W (by omega) (by omega) (by omega) (by omega) (by omega)
  rw [hsp1] at hPC
  rw [HPC.out] at HA
  generalize Frs.getL q Rg.rngR = V at *
  rw [hve2] at hG
  rw [hhT] at hHO
  clear hve2 hhT h190 HPC hsp1
  dsimp only at hPC
  go_enter Tryz.func18, Tryz.ntmps18
  go_upto_region 1 with fail
  generalize (w.alloc (.cells #[.int .i64 200, .string (bs rs), .int .i64 minor, .slice B m d] 31)).alloc (.cells #[.int .i64 0, .string ⟨#[]⟩, .int .i64 0, .slice none 0 0] 31) = w2 at *
  obtain ⟨a0, a1, a2, a3, -⟩ := row_facts4 hr2
  have hC := copyResponse_own 200 rs minor B m d l w2 (hl.step hb0) (by omega)
  unfold respV at hC
  go_wp2_with fail
  refine hC.mono ?_
  rintro xx w2b ⟨Ac, nc, cc, rfl, hW8, hb2b⟩
  clear hC a0 a1 a2 a3
  replace hr2 := row_keep hr2 hb2b
  replace hz2 := row_keep hz2 hb2b
  replace hb0 := bnext hb0 hb2b hb0.size
  replace hW8 := hW8.mono (show w.heap.size + 2 ≤ w2.heap.size from hsz2)
  replace hsz2 : w.heap.size + 2 ≤ w2b.heap.size := Nat.le_trans hsz2 hb2b.size
  clear hb2b
  have hal8 := alloc_below w2b (.cells #[.int .i64 200, .string (bs rs), .int .i64 minor, .slice Ac nc cc] 31)
  have h82 := heap_alloc_new w2b (.cells #[.int .i64 200, .string (bs rs), .int .i64 minor, .slice Ac nc cc] 31)
  have hg8a : w2b.heap.size < (w2b.alloc (.cells #[.int .i64 200, .string (bs rs), .int .i64 minor, .slice Ac nc cc] 31)).heap.size := by simp
  go_upto_region 2 with fail
  replace hr2 := row_keep hr2 hal8
  replace hz2 := row_keep hz2 hal8
  replace hW8 := hW8.step hal8
  replace hb0 := bnext hb0 hal8 hb0.size
  clear hal8
  generalize w2b.alloc (.cells #[.int .i64 200, .string (bs rs), .int .i64 minor, .slice Ac nc cc] 31) = w2c at *
  generalize w2b.heap.size = g8 at *
  go_wp2_with fail
  refine (hG.out _ hb0).mono ?_
  rintro xx w3 ⟨rfl, hb3⟩
  have hr3 := row_keep hr2 hb3
  have hz3 := row_keep hz2 hb3
  have h83 := row_keep h82 hb3
  replace hW8 := hW8.step hb3
  replace hb0 := bnext hb0 hb3 hb0.size
  have hg8b : g8 < w3.heap.size := Nat.lt_of_lt_of_le hg8a hb3.size
  clear hr2 hz2 h82 hg8a hb3 hG
  go_wp2_with fail
  refine (hPC.out _ hb0).mono ?_
  rintro xx w4 ⟨A4, n4, c4, rfl, hP, hb4⟩
  have hr4 := row_keep hr3 hb4
  have hz4 := row_keep hz3 hb4
  have h84 := row_keep h83 hb4
  replace hW8 := hW8.step hb4
  replace hP := hP.mono (show g8 + 1 ≤ w3.heap.size by omega)
  replace hb0 := bnext hb0 hb4 hb0.size
  have hg8 : g8 < w4.heap.size := Nat.lt_of_lt_of_le hg8b hb4.size
  clear hr3 hz3 h83 hg8b hb4 hPC
  obtain ⟨a0, a1, a2, a3, -⟩ := row_facts4 hr4
  go_wp2_with fail
  refine (hHO.out _ hb0).mono ?_
  rintro xx w4b ⟨rfl, hb4b⟩
  clear hHO a0 a1 a2 a3
  replace hr4 := row_keep hr4 hb4b
  replace hz4 := row_keep hz4 hb4b
  replace h84 := row_keep h84 hb4b
  replace hW8 := hW8.step hb4b
  replace hP := hP.step hb4b
  replace hb0 := bnext hb0 hb4b hb0.size
  replace hg8 : g8 < w4b.heap.size := Nat.lt_of_lt_of_le hg8 hb4b.size
  clear hb4b
  clear h84 hW8
  have hn4 : n4 = 1 := by have := hP.rd.1; simpa using this.symm
  subst hn4
  obtain ⟨a0, a1, a2, a3, -⟩ := row_facts4 hr4
  have hal6 := alloc_below w4b (.cells #[.int .i64 206, .string ⟨#[80, 97, 114, 116, 105, 97, 108, 32, 67, 111, 110, 116, 101, 110, 116]⟩, .int .i64 minor, .slice none 0 0] 31)
  have ho6 := heap_alloc_new w4b (.cells #[.int .i64 206, .string ⟨#[80, 97, 114, 116, 105, 97, 108, 32, 67, 111, 110, 116, 101, 110, 116]⟩, .int .i64 minor, .slice none 0 0] 31)
  have hB6 := hal6
  go_upto_region 10 with fail
  clear a0 a1 a2 a3
  replace hr4 := row_keep hr4 hal6
  replace hz4 := row_keep hz4 hal6
  replace hb0 := bnext hb0 hal6 hb0.size
  have hg6 : g8 < w4b.heap.size := hg8
  have hg6b : w4b.heap.size < (w4b.alloc (.cells #[.int .i64 206, .string ⟨#[80, 97, 114, 116, 105, 97, 108, 32, 67, 111, 110, 116, 101, 110, 116]⟩, .int .i64 minor, .slice none 0 0] 31)).heap.size := by simp
  clear hal6 hg8
  generalize w4b.alloc (.cells #[.int .i64 206, .string ⟨#[80, 97, 114, 116, 105, 97, 108, 32, 67, 111, 110, 116, 101, 110, 116]⟩, .int .i64 minor, .slice none 0 0] 31) = w6 at *
  generalize hg6e9 : w4b.heap.size = g6 at *
  have hg6e : w4b.heap.size ≤ g6 := by omega
  have HG6 := Lib.hid hg6e9
  clear hg6e9
  have HSPN : Hid (∀ W, Below g6 w4b W → ∃ g o, A4 = some ⟨g, o, none⟩ ∧ g < W.heap.size ∧ W.cell? ⟨g, o, none⟩ = some (.int .i64 (i : Int)) ∧ W.cell? ⟨g, o + 1, none⟩ = some (.int .i64 (j : Int))) := Lib.hid fun W hW => by
    obtain ⟨g, o, X, Z, h1, h2, HX, s0, s1⟩ := (hP.rd.step (hW.mono hg6e)).at_ (k := 0) (by omega)
    have hXY := HX.out
    simp only [List.getElem?_cons_zero, Option.some.injEq, Prod.mk.injEq] at hXY
    obtain ⟨rfl, rfl⟩ := hXY
    simp only [Nat.zero_mul, Nat.add_zero] at s0 s1
    exact ⟨g, o, h1, h2, s0, s1⟩
  obtain ⟨a0, a1, a2, a3, -⟩ := row_facts4 hr4
  have hal7 := alloc_below w6 (.cells #[.string (bs Rg.clR)] 9)
  have hC := rwithout_own B (some ⟨w6.heap.size, 0, none⟩) m d 1 1 l [Rg.clR] _ ((hl.step hb0).step hal7) (one_rdS w6 Rg.clR 9) (by omega) (by omega) hls.ok (by intro s hs; rw [List.mem_singleton] at hs; subst hs; simp)
  rw [show ([Rg.clR] : List (List UInt8)) = [Rg.clP].map fold from by decide, wf_fold] at hC
  have HWn : Hid ((withoutF l [Rg.clP]).length ≤ m) := Lib.hid (by rw [← hl.1]; exact List.length_filter_le _ _)
  have HWo : Hid (FlenOK (withoutF l [Rg.clP])) := Lib.hid (fun f hf => hls.ok f (List.mem_filter.1 hf).1)
  generalize withoutF l [Rg.clP] = WF at *
  go_wp2_with fail
  refine hC.mono ?_
  rintro xx w7 ⟨A7, n7, c7, rfl, hF, hb7⟩
  clear hC a0 a1 a2 a3
  replace hb7 := hal7.trans (hb7.mono hal7.size)
  have hr7 := row_keep hr4 hb7
  have hz7 := row_keep hz4 hb7
  have ho7 := row_keep ho6 hb7
  replace hb0 := bnext hb0 hb7 hb0.size
  replace hB6 := bnext hB6 hb7 (by omega)
  have hsz7 : g6 < w7.heap.size := Nat.lt_of_lt_of_le hg6b hb7.size
  have hn7 : n7 ≤ 1048576 := by have := HWn.out; have := hF.rd.1; omega
  clear hr4 hz4 ho6 hb7 hal7 hg6b
  obtain ⟨gs, os_, hA4, hgs, s0, s1⟩ := HSPN.out w7 hB6
  subst hA4
  go_wp2_with fail
  refine (HPL.out w7).mono ?_
  rintro xx w9 ⟨rfl, hb9⟩
  clear s0 s1 HPL
  have hr9 := row_keep hr7 hb9
  have hz9 := row_keep hz7 hb9
  have ho9 := row_keep ho7 hb9
  replace hF := hF.step hb9
  replace hb0 := bnext hb0 hb9 hb0.size
  replace hB6 := bnext hB6 hb9 (by omega)
  have hsz9 : g6 < w9.heap.size := Nat.lt_of_lt_of_le hsz7 hb9.size
  clear hr7 hz7 ho7 hb9 hsz7
  generalize Rg.placeL ((i : Int), (j : Int)) k = PT at *
  have hC := put_r A7 n7 c7 WF Rg.crP PT w9 hF.rd (by omega) HWo.out (by decide)
  generalize Rg.putF WF Rg.crP PT = PF at *
  go_wp2_with fail
  refine hC.mono ?_
  rintro xx w11 ⟨A11, n11, c11, rfl, hO, hb11⟩
  clear hC hF HWo HWn
  have hr11 := row_keep hr9 hb11
  have hz11 := row_keep hz9 hb11
  have ho11 := row_keep ho9 hb11
  replace hb0 := bnext hb0 hb11 hb0.size
  replace hB6 := bnext hB6 hb11 (by omega)
  replace hO := hO.mono (show g6 + 1 ≤ w9.heap.size by omega)
  have hsz11 : g6 < w11.heap.size := Nat.lt_of_lt_of_le hsz9 hb11.size
  clear hr9 hz9 ho9 hb11 hsz9
  obtain ⟨p0, p1, p2, p3, f0, f1, f2, f3⟩ := row_facts4 ho11
  go_upto_region 13 with fail
  have ho12 := DA.heap_set ho11 3 (.slice A11 n11 c11)
  simp only [List.setIfInBounds_toArray, List.set_cons_zero, List.set_cons_succ] at ho12
  have hz12 := (DA.heap_rest (w := w11) (b := g6) (k := w.heap.size + 1) (by omega) 3 (.slice A11 n11 c11)).trans hz11
  have hb12 : Below w.heap.size w (w11.setCell ⟨g6, 3, none⟩ (.slice A11 n11 c11)) := hb0.setCell (by show w.heap.size ≤ g6; omega) _
  have hB12 : Below g6 w4b (w11.setCell ⟨g6, 3, none⟩ (.slice A11 n11 c11)) := hB6.setCell (Nat.le_refl _) _
  have hO12 : OwnF (w11.setCell ⟨g6, 3, none⟩ (.slice A11 n11 c11)) (g6 + 1) (.slice A11 n11 c11) PF := own_setG hO (by omega) _
  have hsz12 : g6 < (w11.setCell ⟨g6, 3, none⟩ (.slice A11 n11 c11)).heap.size := by rw [DA.size_set]; exact hsz11
  clear p0 p1 p2 p3 f0 f1 f2 f3 ho11 hz11 hb0 hO hr11 hB6 hsz11
  generalize w11.setCell ⟨g6, 3, none⟩ (.slice A11 n11 c11) = w12 at *
  have hP12 := hP.step (hB12.mono hg6e)
  have HSP3 : Hid (∀ W, Gb (w.heap.size + 1) w12 W → W.cell? ⟨gs, os_, none⟩ = some (.int .i64 (i : Int)) ∧ W.cell? ⟨gs, os_ + 1, none⟩ = some (.int .i64 (j : Int))) := Lib.hid fun W hG => by
    have hPW : OwnP W (g8 + 1) (.slice (some ⟨gs, os_, none⟩) 1 c4) [((i : Int), (j : Int))] := own_gb hP12 (by omega) hG
    obtain ⟨g, o, X, Z, h1, h2, HX, s0, s1⟩ := hPW.rd.at_ (k := 0) (by omega)
    have hXY := HX.out
    simp only [List.getElem?_cons_zero, Option.some.injEq, Prod.mk.injEq] at hXY
    obtain ⟨rfl, rfl⟩ := hXY
    injection h1 with h1
    injection h1 with h1 h3
    subst h1 h3
    simp only [Nat.zero_mul, Nat.add_zero] at s0 s1
    exact ⟨s0, s1⟩
  obtain ⟨gb, ob, rfl, hgb, -⟩ := hb.2.2 (by omega)
  have HPR : Hid (∀ W, Below w.heap.size w W → RdB W (some ⟨gb, ob + i, none⟩) (j + 1 - i) ((b.drop i).take (j + 1 - i))) := Lib.hid fun W hW => RdB.sub (hb.step hW) (by omega) (by omega)
  generalize (b.drop i).take (j + 1 - i) = PC at *
  have ok : TrOK (w.heap.size + 1) [tB 12 103 (g6 + 1) PC, tB 14 7 (g6 + 1) PC] := tB_ok (by omega) (tB_ok (by omega) TrOK.nil)
  have HB : Hid (∀ W', Gb (w.heap.size + 1) w12 W' → Below w.heap.size w W') := Lib.hid fun W' hG => hb12.trans (hG.below (by omega) (by omega))
  refine DA.wp_region (n := 15) (V := fun iop uop => match iop with | 0 => uop = .agg #[.int .i64 206, .string ⟨#[80, 97, 114, 116, 105, 97, 108, 32, 67, 111, 110, 116, 101, 110, 116]⟩, .int .i64 minor, .slice A11 n11 c11] | 1 => uop = .slice (some ⟨gb, ob, none⟩) k e | 2 => uop = .slice (some ⟨gs, os_, none⟩) 1 c4 | 3 => uop = .pointer (some ⟨gs, os_, none⟩) | 4 => uop = .pointer (some ⟨gs, os_, none⟩) | 5 => uop = .int .i64 (i : Int) | 6 => uop = .slice (some ⟨gs, os_, none⟩) 1 c4 | 7 => uop = .pointer (some ⟨gs, os_, none⟩) | 8 => uop = .pointer (some ⟨gs, os_ + 1, none⟩) | 9 => uop = .int .i64 (j : Int) | 10 => uop = .int .i64 ((j : Int) + 1) | 11 => uop = .slice (some ⟨gb, ob + i, none⟩) (j + 1 - i) (e - i) | 12 => ∃ (A : Option Addr) (n c : Nat), uop = .slice A n c | 13 => uop = undef | 14 => ∃ (A : Option Addr) (n c : Nat), uop = .slice A n c | _ => uop = undef) (S := SR w12 (w.heap.size + 1) #[.int .i64 0, .string ⟨#[]⟩, .int .i64 0, .slice none 0 0] (fun _ => #[.int .i64 206, .string ⟨#[80, 97, 114, 116, 105, 97, 108, 32, 67, 111, 110, 116, 101, 110, 116]⟩, .int .i64 minor, .slice A11 n11 c11]) 31 0 13 91 186 [tB 12 103 (g6 + 1) PC, tB 14 7 (g6 + 1) PC]) (by kernel_rfl) rfl (SR.start rfl hz12) ?_
  refine' DA.Det.takeE (i := 0) (v := _) rfl (fun _ => Iff.rfl) (by kernel_rfl) (by kernel_rfl) (by kernel_rfl) (DA.YS.pure rfl rfl ?rpro0 ?spro0) ?npro0
  case rpro0 => intro a' L W hS; obtain ⟨k0, k1, k2, k3, -⟩ := row_facts4 ((hS.grow.block g6 hsz12 (by omega)).trans ho12); go_simp; first | rfl | skip
  case spro0 => exact fun a' L W hL h => (SR.other ok (by intro t ht; simp only [List.mem_cons, List.not_mem_nil, or_false] at ht; rcases ht with rfl | rfl <;> simp) (by decide) (by simp) hL h (Below.refl _ _))
  try simp only [Act.put, List.setIfInBounds_toArray, List.set_cons_zero, List.set_cons_succ]
  refine' DA.Det.takeE (i := 1) (v := _) rfl (fun _ => Iff.rfl) (by kernel_rfl) (by kernel_rfl) (by kernel_rfl) (DA.YS.pure rfl rfl ?rpro1 ?spro1) ?npro1
  case rpro1 => intro a' L W hS; go_simp; first | rfl | skip
  case spro1 => exact fun a' L W hL h => (SR.other ok (by intro t ht; simp only [List.mem_cons, List.not_mem_nil, or_false] at ht; rcases ht with rfl | rfl <;> simp) (by decide) (by simp) hL h (Below.refl _ _))
  try simp only [Act.put, List.setIfInBounds_toArray, List.set_cons_zero, List.set_cons_succ]
  refine' DA.Det.takeE (i := 2) (v := _) rfl (fun _ => Iff.rfl) (by kernel_rfl) (by kernel_rfl) (by kernel_rfl) (DA.YS.pure rfl rfl ?rpro2 ?spro2) ?npro2
  case rpro2 => intro a' L W hS; go_simp; first | rfl | skip
  case spro2 => exact fun a' L W hL h => (SR.other ok (by intro t ht; simp only [List.mem_cons, List.not_mem_nil, or_false] at ht; rcases ht with rfl | rfl <;> simp) (by decide) (by simp) hL h (Below.refl _ _))
  try simp only [Act.put, List.setIfInBounds_toArray, List.set_cons_zero, List.set_cons_succ]
  refine' DA.Det.takeE (i := 3) (v := _) rfl (fun _ => Iff.rfl) (by kernel_rfl) (by kernel_rfl) (by kernel_rfl) (DA.YS.pure rfl rfl ?rpro3 ?spro3) ?npro3
  case rpro3 => intro a' L W hS; go_simp; first | rfl | skip
  case spro3 => exact fun a' L W hL h => (SR.other ok (by intro t ht; simp only [List.mem_cons, List.not_mem_nil, or_false] at ht; rcases ht with rfl | rfl <;> simp) (by decide) (by simp) hL h (Below.refl _ _))
  try simp only [Act.put, List.setIfInBounds_toArray, List.set_cons_zero, List.set_cons_succ]
  refine' DA.Det.takeE (i := 4) (v := _) rfl (fun _ => Iff.rfl) (by kernel_rfl) (by kernel_rfl) (by kernel_rfl) (DA.YS.pure rfl rfl ?rpro4 ?spro4) ?npro4
  case rpro4 => intro a' L W hS; go_simp; first | rfl | skip
  case spro4 => exact fun a' L W hL h => (SR.other ok (by intro t ht; simp only [List.mem_cons, List.not_mem_nil, or_false] at ht; rcases ht with rfl | rfl <;> simp) (by decide) (by simp) hL h (Below.refl _ _))
  try simp only [Act.put, List.setIfInBounds_toArray, List.set_cons_zero, List.set_cons_succ]
  refine' DA.Det.takeE (i := 5) (v := _) rfl (fun _ => Iff.rfl) (by kernel_rfl) (by kernel_rfl) (by kernel_rfl) (DA.YS.pure rfl rfl ?rpro5 ?spro5) ?npro5
  case rpro5 => intro a' L W hS; obtain ⟨k0, k1⟩ := HSP3.out W hS.grow; go_simp; first | rfl | skip
  case spro5 => exact fun a' L W hL h => (SR.other ok (by intro t ht; simp only [List.mem_cons, List.not_mem_nil, or_false] at ht; rcases ht with rfl | rfl <;> simp) (by decide) (by simp) hL h (Below.refl _ _))
  try simp only [Act.put, List.setIfInBounds_toArray, List.set_cons_zero, List.set_cons_succ]
  refine' DA.Det.takeE (i := 6) (v := _) rfl (fun _ => Iff.rfl) (by kernel_rfl) (by kernel_rfl) (by kernel_rfl) (DA.YS.pure rfl rfl ?rpro6 ?spro6) ?npro6
  case rpro6 => intro a' L W hS; go_simp; first | rfl | skip
  case spro6 => exact fun a' L W hL h => (SR.other ok (by intro t ht; simp only [List.mem_cons, List.not_mem_nil, or_false] at ht; rcases ht with rfl | rfl <;> simp) (by decide) (by simp) hL h (Below.refl _ _))
  try simp only [Act.put, List.setIfInBounds_toArray, List.set_cons_zero, List.set_cons_succ]
  refine' DA.Det.takeE (i := 7) (v := _) rfl (fun _ => Iff.rfl) (by kernel_rfl) (by kernel_rfl) (by kernel_rfl) (DA.YS.pure rfl rfl ?rpro7 ?spro7) ?npro7
  case rpro7 => intro a' L W hS; go_simp; first | rfl | skip
  case spro7 => exact fun a' L W hL h => (SR.other ok (by intro t ht; simp only [List.mem_cons, List.not_mem_nil, or_false] at ht; rcases ht with rfl | rfl <;> simp) (by decide) (by simp) hL h (Below.refl _ _))
  try simp only [Act.put, List.setIfInBounds_toArray, List.set_cons_zero, List.set_cons_succ]
  refine' DA.Det.takeE (i := 8) (v := _) rfl (fun _ => Iff.rfl) (by kernel_rfl) (by kernel_rfl) (by kernel_rfl) (DA.YS.pure rfl rfl ?rpro8 ?spro8) ?npro8
  case rpro8 => intro a' L W hS; go_simp; first | rfl | skip
  case spro8 => exact fun a' L W hL h => (SR.other ok (by intro t ht; simp only [List.mem_cons, List.not_mem_nil, or_false] at ht; rcases ht with rfl | rfl <;> simp) (by decide) (by simp) hL h (Below.refl _ _))
  try simp only [Act.put, List.setIfInBounds_toArray, List.set_cons_zero, List.set_cons_succ]
  refine' DA.Det.takeE (i := 9) (v := _) rfl (fun _ => Iff.rfl) (by kernel_rfl) (by kernel_rfl) (by kernel_rfl) (DA.YS.pure rfl rfl ?rpro9 ?spro9) ?npro9
  case rpro9 => intro a' L W hS; obtain ⟨k0, k1⟩ := HSP3.out W hS.grow; go_simp; first | rfl | skip
  case spro9 => exact fun a' L W hL h => (SR.other ok (by intro t ht; simp only [List.mem_cons, List.not_mem_nil, or_false] at ht; rcases ht with rfl | rfl <;> simp) (by decide) (by simp) hL h (Below.refl _ _))
  try simp only [Act.put, List.setIfInBounds_toArray, List.set_cons_zero, List.set_cons_succ]
  refine' DA.Det.takeE (i := 10) (v := _) rfl (fun _ => Iff.rfl) (by kernel_rfl) (by kernel_rfl) (by kernel_rfl) (DA.YS.pure rfl rfl ?rpro10 ?spro10) ?npro10
  case rpro10 => intro a' L W hS; go_simp; exact IntWalk.i64_in _ (by omega)
  case spro10 => exact fun a' L W hL h => (SR.other ok (by intro t ht; simp only [List.mem_cons, List.not_mem_nil, or_false] at ht; rcases ht with rfl | rfl <;> simp) (by decide) (by simp) hL h (Below.refl _ _))
  try simp only [Act.put, List.setIfInBounds_toArray, List.set_cons_zero, List.set_cons_succ]
  refine' DA.Det.takeE (i := 11) (v := _) rfl (fun _ => Iff.rfl) (by kernel_rfl) (by kernel_rfl) (by kernel_rfl) (DA.YS.pure rfl rfl ?rpro11 ?spro11) ?npro11
  case rpro11 => intro a' L W hS; go_simp; rw [if_pos (by omega), if_pos (by omega), if_neg (by omega)]
  case spro11 => exact fun a' L W hL h => (SR.other ok (by intro t ht; simp only [List.mem_cons, List.not_mem_nil, or_false] at ht; rcases ht with rfl | rfl <;> simp) (by decide) (by simp) hL h (Below.refl _ _))
  try simp only [Act.put, List.setIfInBounds_toArray, List.set_cons_zero, List.set_cons_succ]
  refine' DA.Det.takeL (i := 12) rfl ⟨_, none, 0, 0, rfl⟩ (by kernel_rfl) (by kernel_rfl) (by kernel_rfl) (callE (f := _) (args := _) rfl ?rpro12 ?cpro12) ?npro12
  case rpro12 => intro W; go_simp; constructor <;> rfl
  case cpro12 =>
    intro a' L W he hL hd hS
    refine (copyBytes_own _ _ _ PC W (HPR.out W (HB.out W hS.grow)) (by omega)).mono ?_
    rintro e w9 ⟨A9, n9, c9, rfl, ho9, hb9⟩
    have hR9 : (tB 12 103 (g6 + 1) PC).R w9 (.slice A9 n9 c9) := ⟨A9, n9, c9, rfl, (ho9).mono (Nat.le_trans (show g6 + 1 ≤ w12.heap.size from hsz12) hS.grow.size)⟩
    exact ⟨_, rfl, ⟨A9, n9, c9, rfl⟩, SR.made (tB 12 103 (g6 + 1) PC) ok (by intro t ht; simp only [List.mem_cons, List.not_mem_nil, or_false] at ht; rcases ht with rfl | rfl; exact .inl rfl; exact .inr (by simp)) (by simp) (by simp) (by simp) hL hS hb9 hR9⟩
  rintro v12 ⟨Aro12, nro12, cro12, rfl⟩
  try simp only [Act.put, List.setIfInBounds_toArray, List.set_cons_zero, List.set_cons_succ]
  refine' DA.Det.takeE (i := 13) (v := undef) rfl (fun _ => Iff.rfl) (by kernel_rfl) (by kernel_rfl) (by kernel_rfl) (DA.YS.store (f := _) rfl rfl ?rpro13) ?npro13
  case rpro13 =>
    intro a' L W he hL hd hS
    have hbx := hS.box0 (DA.getD_un hL)
    have hiq := hd ⟨0, .data⟩ (by simp) (by kernel_rfl)
    obtain ⟨z0, z1, z2, z3, y0, y1, y2, y3⟩ := row_facts4 hbx
    constructor
    · go_simp; rfl
    · exact SR.stored (by intro t ht; simp only [List.mem_cons, List.not_mem_nil, or_false] at ht; rcases ht with rfl | rfl <;> simp) (by decide) hL hiq hS (slot_val (he (.tmp 91) (by simp [Op.operands, Call.operands])) (by simp [undef, Act.eval])) Gb.set4 (heap_set4 hbx) ok.set4
  try simp only [Act.put, List.setIfInBounds_toArray, List.set_cons_zero, List.set_cons_succ]
  refine' DA.Det.takeL (i := 14) rfl ⟨_, none, 0, 0, rfl⟩ (by kernel_rfl) (by kernel_rfl) (by kernel_rfl) (pureE (v := _) rfl ?rpro14 ?cpro14) ?npro14
  case rpro14 => intro W; go_simp; first | rfl | skip
  case cpro14 =>
    intro a' L W he hL hd hS
    have hR8 := hS.see (t := tB 12 103 (g6 + 1) PC) (by simp) (hd ⟨12, .data⟩ (by simp) (by kernel_rfl)) (he (.tmp 103) (by simp [Op.operands, Call.operands])) (by simp [undef, Act.eval])
    obtain ⟨A8, n8, c8, e8, ho8⟩ := hR8
    have e8' : (Value.slice Aro12 nro12 cro12) = .slice A8 n8 c8 := e8
    refine ⟨⟨_, _, _, rfl⟩, SR.made (tB 14 7 (g6 + 1) PC) ok (by intro t ht; simp only [List.mem_cons, List.not_mem_nil, or_false] at ht; rcases ht with rfl | rfl; exact .inr (by simp); exact .inl rfl) (by simp) (by simp) (by simp) hL hS (Below.refl _ _) ⟨_, _, _, rfl, ?_⟩⟩
    rw [e8']; exact ho8
  rintro v14 ⟨Aro14, nro14, cro14, rfl⟩
  try simp only [Act.put, List.setIfInBounds_toArray, List.set_cons_zero, List.set_cons_succ]
  refine DA.Det.done (by kernel_rfl) (fun W hS => ?_) _
  obtain ⟨u, -, hbx9⟩ := hS.box1 rfl
  obtain ⟨v7, e7, A9, n9, c9, hv, hO7⟩ := hS.row (tB 14 7 (g6 + 1) PC) (by simp) rfl
  have e7' : (Value.slice Aro14 nro14 cro14) = v7 := Option.some.inj e7
  subst hv
  rw [← e7'] at hO7
  have hF9 := own_gb hO12 (by omega) hS.grow
  have hW := HB.out _ hS.grow
  obtain ⟨c0, c1, c2, c3, -⟩ := row_facts4 hbx9
  clear hS e7 e7' hbx9 HB hO12
  go_wp2
  refine bodyPost_ret (v := .tuple #[.agg #[.int .i64 206, .string ⟨#[80, 97, 114, 116, 105, 97, 108, 32, 67, 111, 110, 116, 101, 110, 116]⟩, .int .i64 minor, .slice A11 n11 c11], .slice Aro14 nro14 cro14]) (by simp [results, Tryz.results18, go_sem, c0, c1, c2, c3]) rfl ⟨_, _, _, _, _, _, by rw [HA.out]; rfl, ?_, ?_, hW⟩
  · rw [HA.out]; exact own_mono hF9 (by omega)
  · rw [HA.out]; exact own_mono hO7 (by omega)
end Go.Proofs.YtcaekfebnhedpaaGreatDoor
