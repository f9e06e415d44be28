/- LruPairs: for every input the law answers true and leaves its arguments as they were. No conditions. -/
import Derived.Test.YtepedjnmliclkaaRows
import Derived.Test.YtepedjnmliclkaaLruQ
import Derived.StillTailTactics
import Derived.Deep.LoopGhost
import Derived.Deep.RegionHeld3
import Derived.Deep.Cut
import Derived.Deep.DeepCutAuto
import Derived.Deep.CutBlock
import Derived.Deep.QuietTactic
import Derived.BigQuiet
import Derived.Test.YtepedjnmliclkaaOpenL
import Derived.WalkKit
import Derived.ProofKit
import Derived.OpenShut
import Derived.JoinedCond
set_option linter.unusedVariables false
set_option linter.unusedSimpArgs false
set_option maxRecDepth 100000
namespace Go.Proofs.Ytepedjnmliclkaa.lruPairs
open Go.ChangeShapes Go.WideShapes Go.ChangeAt Go.RowKit

theorem same_keysP {w : World} {A B : Option Addr} {n m c d : Nat} {ys : List Cn} (hl : RdS w A n (ys.map (·.o))) (hr : RdS w B m (ys.map (·.o))) (h : ys.length ≤ 1000000) : Calls Try.prog 20 #[.slice A n c, .slice B m d] w fun e w' => e = .returned (.bool true) ∧ Below w.heap.size w w' := by
  have h1 := hl.1
  have h2 := hr.1
  simp at h1 h2
  have := sameTexts_any A B n m c d _ _ w hl hr (by omega) (by omega)
  rwa [beq_self_eq_true] at this
set_option maxRecDepth 100000 in
set_option maxHeartbeats 8000000 in
theorem walk (w : World) (room : Int) (hm1 : -9223372036854775808 ≤ room) (hm2 : room ≤ 9223372036854775807)
    (A : Option Addr) (n c : Nat) (l : List Op4) (hA : RdO w A n l) (hnc : n ≤ c) (hcm : c ≤ 9223372036854775807) (hkl : ∀ x ∈ l, x.k.length ≤ maxLen) :
    Calls Try.prog 4 #[.int .i64 room, .slice A n c] w fun e w' => e = .returned (.bool true) ∧ Below w.heap.size w w' := by
  have hR0 : 0 ≤ roomL room := by unfold roomL; split <;> (try split) <;> omega
  have hR1 : roomL room ≤ 1073741824 := by unfold roomL; split <;> (try split) <;> omega
  go_enter Try.func4, Try.ntmps4
  go_wp2_with fail
  refine (alive14_any w).mono ?_
  rintro e w1 ⟨rfl, hb1⟩
  have hl1 := hA.step hb1
  go_wp2_with fail
  refine (LA.lruNew_any room w1).mono ?_
  rintro e w2 ⟨tb, mt, rfl, hp2, hb2⟩
  have hl2 := hl1.step hb2
  go_wp2_with fail
  refine (LB.lruNew_any room w2).mono ?_
  rintro e w2b ⟨ub, mu, rfl, hu2, hb2b⟩
  have hl2b := hl2.step hb2b
  have hne : mt ≠ mu := by
    have h1 := hp2.mapAt
    have h2 := hu2.mapAt
    omega
  replace hp2 := hp2.step hb2b
  replace hu2 := hu2.lower hb2.size
  replace hb2 := bnext hb2 hb2b hb2.size
  clear hb2b hl2
  go_wp2_with fail
  refine (new14_any room w2b).mono ?_
  rintro e w3 ⟨rfl, hb3⟩
  have hl3 := hl2b.step hb3
  have hp3 := hp2.step hb3
  have hu3 := hu2.step hb3
  unfold tabV
  generalize roomL room = R at *
  have hal := alloc_below w3 (.cells #[.int .i64 R, .slice none 0 0] 28)
  have hro := heap_alloc_new w3 (.cells #[.int .i64 R, .slice none 0 0] 28)
  have hl4 := hl3.step hal
  have hbX := bnext hb2 (bnext hb3 hal hb3.size) hb2.size
  have hM : LP2 w1 (w3.alloc (.cells #[.int .i64 R, .slice none 0 0] 28)) w1.heap.size tb ub w3.heap.size R mt mu 0 [] none 0 0 :=
    ⟨hp3.step hal, hu3.step hal, hne, hro, OwnT.nil _ _ _, hbX, Nat.le_refl _, Nat.le_trans hb2.size hb3.size⟩
  clear hal hro hl1 hl2b hl3 hp2 hp3 hu2 hu3 hb2 hb3 hbX hne
  go_wp2_with fail
  generalize w3.alloc (.cells #[.int .i64 R, .slice none 0 0] 28) = w4 at *
  generalize w3.heap.size = rb at *
  refine (cutL_any A n c l w4 hl4 hnc hcm).mono ?_
  rintro e w5 ⟨m, rfl, hm3, hmc, hl5, rfl⟩
  have hsc := cut_back hA hl5
  have HKL : Hid (∀ x ∈ l.take 300, x.k.length ≤ maxLen) := Lib.hid fun x hx => hkl x (List.mem_of_mem_take hx)
  generalize l.take 300 = sc at *
  have hlen := hsc.1
  clear hA hl4 hl5 hkl
  go_wp2
  go_loopg [8] m (fun r t wr => ∃ (k : Nat) (A5 : Option Addr) (n5 c5 : Nat), k ≤ m ∧ r + k = m ∧ t = .int .i64 k ∧ LP2 w1 wr w1.heap.size tb ub rb R mt mu k (bndP R (sc.take k)) A5 n5 c5)
  case atStart => exact ⟨0, none, 0, 0, by omega, by omega, rfl, hM⟩
  case round =>
    clear hM
    obtain ⟨k, A5, n5, c5, hk, hr, rfl, hM⟩ := hrel
    obtain ⟨wo, rfl⟩ : ∃ wo, wo = wr := ⟨_, rfl⟩
    have hbw := bnext hb1 hM.below hb1.size
    have hsr := hsc.step hbw
    have hko := bndP_ok hR0 hR1 sc HKL.out k
    by_cases hlt : k < m
    · obtain ⟨g, o, x, rfl, hg, HX, c0, c1, c2, c3⟩ := hsr.at_ hlt
      have k0 : (0 : Int) ≤ (k : Int) := by omega
      have k1 : (k : Int) < (m : Int) := by omega
      have hxk := HKL.out x (mem_of_get? HX.out)
      have HS := Lib.hid (bndP_snoc (R := R) HX.out)
      generalize bndP R (sc.take k) = xs at *
      have HY := Lib.hid (stepP_ok (o := x) hko.1 hxk)
      have HSB : Hid (stepP R xs x = if x.w = 1 then (lputL R x.k x.a x.b xs).1 else woL x.k xs) := Lib.hid rfl
      generalize stepP R xs x = ys at *
      have hal := alloc_below wo (.cells #[.int .i64 x.w, .string (bs x.k), .int .i64 x.a, .int .i64 x.b] 32)
      have hrow := heap_alloc_new wo (.cells #[.int .i64 x.w, .string (bs x.k), .int .i64 x.a, .int .i64 x.b] 32)
      have hMx := (hM.step hal).to3
      have hO0 : (wo.alloc (.cells #[.int .i64 x.w, .string (bs x.k), .int .i64 x.a, .int .i64 x.b] 32)).cell? ⟨wo.heap.size, 0, none⟩ = some (.int .i64 x.w) := by rw [cell_of_row _ _ _ _ _ _ hrow]; rfl
      clear hal hM hbw hsr
      go_upto_region 13 with fail
      generalize wo.alloc (.cells #[.int .i64 x.w, .string (bs x.k), .int .i64 x.a, .int .i64 x.b] 32) = wx at *
      generalize wo.heap.size = ob at *
      have hn5 : xs.length = n5 := hMx.own.rd.1
      have HMX := Lib.hid hMx
      have HROW := Lib.hid hrow
      have HN5 := Lib.hid hn5
      clear hMx hrow hn5 c0 c1 c2 c3
      go_upto_if 46 with fail
      go_cut [8] (fun v wc => v = .int .i64 k ∧ wc.heap[ob]? = some (.cells #[.int .i64 x.w, .string (bs x.k), .int .i64 x.a, .int .i64 x.b] 32 (0, 0)) ∧ ∃ (A7 : Option Addr) (n7 c7 : Nat), LP2 w1 wc w1.heap.size tb ub rb R mt mu (k + 1) ys A7 n7 c7)
      case first =>
        by_cases hw1 : x.w = 1
        · have hwb : (x.w == 1) = true := by simp [hw1]
          rw [if_pos hw1] at HSB
          have hO1 : wx.cell? ⟨ob, 1, none⟩ = some (.string (bs x.k)) := by rw [cell_of_row _ _ _ _ _ _ HROW.out]; rfl
          have hO2 : wx.cell? ⟨ob, 2, none⟩ = some (.int .i64 x.a) := by rw [cell_of_row _ _ _ _ _ _ HROW.out]; rfl
          have hO3 : wx.cell? ⟨ob, 3, none⟩ = some (.int .i64 x.b) := by rw [cell_of_row _ _ _ _ _ _ HROW.out]; rfl
          have hP := LA.lruPut_any w1.heap.size tb mt k R xs x.k x.a x.b wx HMX.out.ta hko.1 hR0 hxk (by omega) (by omega)
          clear hw1
          go_wp2_with fail
          refine hP.mono ?_
          rintro e w7 ⟨A6, n6, c6, rfl, ho6, hp7, ht7⟩
          rw [← HSB.out] at hp7
          have hM7 := HMX.out.turnA hp7 ht7
          have hrow7 := row_turn ht7.turn HROW.out (by decide) (by decide)
          clear hP ht7 hp7 ho6 hO1 hO2 hO3 hO0
          generalize (lputL R x.k x.a x.b xs).2.2 = pb at *
          have hO1 : w7.cell? ⟨ob, 1, none⟩ = some (.string (bs x.k)) := by rw [cell_of_row _ _ _ _ _ _ hrow7]; rfl
          have hO2 : w7.cell? ⟨ob, 2, none⟩ = some (.int .i64 x.a) := by rw [cell_of_row _ _ _ _ _ _ hrow7]; rfl
          have hO3 : w7.cell? ⟨ob, 3, none⟩ = some (.int .i64 x.b) := by rw [cell_of_row _ _ _ _ _ _ hrow7]; rfl
          have hcv := convL_sb x.k w7
          have HM7 := Lib.hid hM7
          have HROW7 := Lib.hid hrow7
          have hbB := bytesW_below w7 5 (bs x.k)
          have hO3b : (Lib.bytesWorld w7 5 (bs x.k)).cell? ⟨ob, 3, none⟩ = some (.int .i64 x.b) := by rw [cell_of_row _ _ _ _ _ _ (row_keep hrow7 hbB)]; rfl
          have hvl := valAt_conv w7 x.k
          generalize hcp : grownCap w7 x.k.length 0 5 = cp at *
          have HVL := Lib.hid hvl
          have HBB := Lib.hid hbB
          clear hM7 hrow7 hcp hvl hbB
          go_wp2_with fail
          have hM8 := HM7.out.step HBB.out
          have hrow8 := row_keep HROW7.out HBB.out
          have hvl := HVL.out
          clear hcv HVL HBB HM7 HROW7 hO1 hO2 hO3 hO3b
          generalize Lib.bytesWorld w7 5 (bs x.k) = w8 at *
          generalize w7.heap.size = gb at *
          have hP := LB.lruPut_any w1.heap.size ub mu k R xs x.k (some ⟨gb, 0, none⟩) x.k.length cp x.a x.b w8 hvl hM8.tu hko.1 hR0 hxk (by omega) (by omega)
          refine hP.mono ?_
          rintro e w9 ⟨A6, n6, c6, rfl, ho6, hp9, ht9⟩
          rw [← HSB.out] at hp9
          have hM9 := hM8.turnB hp9 ht9
          have hrow9 := row_turn ht9.turn hrow8 (by decide) (by decide)
          clear hP ht9 hp9 ho6 hM8 hrow8 hvl
          have hQ := put14_any R A5 n5 c5 xs x.k x.a x.b w9 hM9.own.rd (by have := HN5.out; omega) hko.1 hR0
          have hO1 : w9.cell? ⟨ob, 1, none⟩ = some (.string (bs x.k)) := by rw [cell_of_row _ _ _ _ _ _ hrow9]; rfl
          have hO2 : w9.cell? ⟨ob, 2, none⟩ = some (.int .i64 x.a) := by rw [cell_of_row _ _ _ _ _ _ hrow9]; rfl
          have hO3 : w9.cell? ⟨ob, 3, none⟩ = some (.int .i64 x.b) := by rw [cell_of_row _ _ _ _ _ _ hrow9]; rfl
          obtain ⟨b0, b1, f0, f1⟩ := hM9.cells
          have HM9 := Lib.hid hM9
          have HROW9 := Lib.hid hrow9
          clear hM9 hrow9
          rw [← HSB.out] at hQ
          generalize (lputL R x.k x.a x.b xs).2.1 = gone at *
          generalize (lputL R x.k x.a x.b xs).2.2 = pb2 at *
          unfold tabV at hQ
          go_wp2_with fail
          refine hQ.mono ?_
          rintro e w10 ⟨A7, n7, c7, G, gn, gc, rfl, hr8, hg8, hk8, hb10⟩
          have hMA := HM9.out.step hb10
          have hoA := hk8 (rb + 1) HM9.out.lt HM9.out.own
          have hrA := row_keep HROW9.out hb10
          have hal := alloc_below w10 (.cells #[.int .i64 R, .slice A7 n7 c7] 28)
          have hro := heap_alloc_new w10 (.cells #[.int .i64 R, .slice A7 n7 c7] 28)
          have hMB := hMA.step hal
          have hoB := hoA.step hal
          have hrB := row_keep hrA hal
          clear hQ hb10 hMA hoA hk8 hr8 hg8 hrA hal HM9 HROW9 hO1 hO2 hO3 b0 b1 f0 f1
          go_upto_region 17 with fail
          generalize w10.alloc (.cells #[.int .i64 R, .slice A7 n7 c7] 28) = w11 at *
          generalize w10.heap.size = nb at *
          obtain ⟨b0, b1, f0, f1⟩ := hMB.cells
          obtain ⟨d0, d1, -, -⟩ := row_facts2 hro
          have hMC := hMB.store hoB
          have hne : ob ≠ rb := by
            rintro rfl
            have := hMB.box
            rw [hrB] at this; cases this
          have hrC : ((w11.setCell ⟨rb, 0, none⟩ (.int .i64 R)).setCell ⟨rb, 1, none⟩ (.slice A7 n7 c7)).heap[ob]? = some (.cells #[.int .i64 x.w, .string (bs x.k), .int .i64 x.a, .int .i64 x.b] 32 (0, 0)) := by
            rw [Below.heap_setCell _ _ _ _ hne, Below.heap_setCell _ _ _ _ hne]; exact hrB
          have HMC := Lib.hid (hMC.to2 (Nat.le_refl (k + 1)) (Nat.le_refl (k + 1)))
          have HRC := Lib.hid hrC
          clear hMB hoB hrB hro hMC hrC hne
          go_wp2
          go_meet
          case rel => exact ⟨rfl, HRC.out, A7, n7, c7, HMC.out⟩
        · have hwb : (x.w == 1) = false := by simp [hw1]
          rw [if_neg hw1] at HSB
          have hO1 : wx.cell? ⟨ob, 1, none⟩ = some (.string (bs x.k)) := by rw [cell_of_row _ _ _ _ _ _ HROW.out]; rfl
          have hT := LA.lruDrop_any w1.heap.size tb mt k R xs x.k wx HMX.out.ta hko.1 hxk
          generalize (findK x.k xs).isSome = fb at *
          clear hw1
          go_wp2_with fail
          refine hT.mono ?_
          rintro e w7 ⟨rfl, hp7, ht7⟩
          rw [← HSB.out] at hp7
          have hM7 := HMX.out.turnA hp7 ht7
          have hrow7 := row_turn ht7.turn HROW.out (by decide) (by decide)
          clear hT ht7 hp7 hO1 hO0
          have hO1 : w7.cell? ⟨ob, 1, none⟩ = some (.string (bs x.k)) := by rw [cell_of_row _ _ _ _ _ _ hrow7]; rfl
          have hT := LB.lruDrop_any w1.heap.size ub mu k R xs x.k w7 hM7.tu hko.1 hxk
          generalize (findK x.k xs).isSome = fb2 at *
          have HM7 := Lib.hid hM7
          have HROW7 := Lib.hid hrow7
          clear hM7 hrow7
          go_wp2_with fail
          refine hT.mono ?_
          rintro e w9 ⟨rfl, hp9, ht9⟩
          rw [← HSB.out] at hp9
          have hM9 := HM7.out.turnB hp9 ht9
          have hrow9 := row_turn ht9.turn HROW7.out (by decide) (by decide)
          clear hT ht9 hp9 hO1 HM7 HROW7
          have hO1 : w9.cell? ⟨ob, 1, none⟩ = some (.string (bs x.k)) := by rw [cell_of_row _ _ _ _ _ _ hrow9]; rfl
          have hC := without14_any R A5 n5 c5 xs x.k w9 hM9.own.rd (by have := HN5.out; omega)
          rw [← HSB.out] at hC
          obtain ⟨b0, b1, f0, f1⟩ := hM9.cells
          have HM9 := Lib.hid hM9
          have HROW9 := Lib.hid hrow9
          unfold tabV at hC
          clear hM9 hrow9
          go_wp2_with fail
          refine hC.mono ?_
          rintro e w10 ⟨A8, n8, c8, rfl, ho8, hb8⟩
          have hMB := HM9.out.step hb8
          have hrB := row_keep HROW9.out hb8
          have hoB := ho8.mono (show rb + 1 ≤ w9.heap.size by have := HM9.out.lt; omega)
          clear hC hb8 ho8 HM9 HROW9 hO1 b0 b1 f0 f1
          obtain ⟨b0, b1, f0, f1⟩ := hMB.cells
          have hMC := hMB.store hoB
          have hne : ob ≠ rb := by
            rintro rfl
            have := hMB.box
            rw [hrB] at this; cases this
          have hrC : ((w10.setCell ⟨rb, 0, none⟩ (.int .i64 R)).setCell ⟨rb, 1, none⟩ (.slice A8 n8 c8)).heap[ob]? = some (.cells #[.int .i64 x.w, .string (bs x.k), .int .i64 x.a, .int .i64 x.b] 32 (0, 0)) := by
            rw [Below.heap_setCell _ _ _ _ hne, Below.heap_setCell _ _ _ _ hne]; exact hrB
          have HMC := Lib.hid (hMC.to2 (show k ≤ k + 1 by omega) (show k ≤ k + 1 by omega))
          have HRC := Lib.hid hrC
          clear hMB hoB hrB hMC hrC hne
          go_wp2
          go_meet
          case rel => exact ⟨rfl, HRC.out, A8, n8, c8, HMC.out⟩
      case rest =>
        obtain ⟨rfl, hrow7, A7, n7, c7, hM7⟩ := hcut
        have hxl := hko.2
        clear HMX HROW hO0 HN5 HSB hko
        obtain ⟨hiy, hyl⟩ := HY.out
        have hyl2 : ys.length ≤ 1000 := by omega
        have hn7 : ys.length = n7 := hM7.to3.own.rd.1
        have HN7 := Lib.hid hn7
        obtain ⟨wd, hwd⟩ : ∃ wd, wd = wc := ⟨_, rfl⟩
        subst hwd
        have hC := at14_any R A7 n7 c7 ys x.k wd hM7.to3.own.rd (by omega)
        unfold tabV at hC
        have hO1 : wd.cell? ⟨ob, 1, none⟩ = some (.string (bs x.k)) := by rw [cell_of_row _ _ _ _ _ _ hrow7]; rfl
        obtain ⟨b0, b1, f0, f1⟩ := hM7.to3.cells
        have HM7 := Lib.hid hM7
        have HROW7 := Lib.hid hrow7
        clear hM7 hrow7 hn7
        go_upto_region 21 with fail
        go_wp2_with fail
        refine hC.mono ?_
        rintro e w8 ⟨rfl, hb8⟩
        have HM8 := Lib.hid (HM7.out.step hb8)
        have HROW8 := Lib.hid (row_keep HROW7.out hb8)
        have HAT := Lib.hid (atR_find x.k ys 0)
        generalize atR x.k ys 0 = kx at *
        clear hC hb8 HM7 HROW7 hO1 b0 b1 f0 f1
        have hO1 : w8.cell? ⟨ob, 1, none⟩ = some (.string (bs x.k)) := by rw [cell_of_row _ _ _ _ _ _ HROW8.out]; rfl
        have hP := LA.lruPeek_any w1.heap.size tb mt (k + 1) R ys x.k w8 HM8.out.ta hiy.keys hxk
        have hkz : (kx = -1 ∧ findK x.k ys = none) ∨ ∃ (kk : Nat) (y : Cn), kx = (kk : Int) ∧ ys[kk]? = some y ∧ findK x.k ys = some y := by
          rcases HAT.out with h | ⟨kk, y, h1, h2, h3⟩
          · exact .inl h
          · exact .inr ⟨kk, y, by rw [h1]; simp, h2, h3⟩
        have hiyK := hiy.keys
        have HIK := Lib.hid hiyK
        clear HAT hiyK hiy
        rcases hkz with ⟨rfl, hf⟩ | ⟨kk, y, rfl, hy, hf⟩
        · unfold LA.peekV at hP
          rw [hf] at hP
          dsimp only at hP
          go_wp2_with fail
          refine hP.mono ?_
          rintro e w9 ⟨rfl, hb9⟩
          have hM9 := HM8.out.step hb9
          have hrow9 := row_keep HROW8.out hb9
          have hal := alloc_below w9 (.cells #[.string ⟨#[]⟩, .int .i64 0] 53)
          have hra := heap_alloc_new w9 (.cells #[.string ⟨#[]⟩, .int .i64 0] 53)
          have hMA := hM9.step hal
          have hrowA := row_keep hrow9 hal
          clear hP hb9 hM9 hrow9 hO1 hal HM8 HROW8
          go_upto_region 23 with fail
          generalize w9.alloc (.cells #[.string ⟨#[]⟩, .int .i64 0] 53) = wA at *
          generalize w9.heap.size = pb at *
          have hO1 : wA.cell? ⟨ob, 1, none⟩ = some (.string (bs x.k)) := by rw [cell_of_row _ _ _ _ _ _ hrowA]; rfl
          obtain ⟨p0, p1, -, -⟩ := row_facts2 hra
          obtain ⟨b0, b1, f0, f1⟩ := hMA.to3.cells
          have hP := LB.lruPeek_any w1.heap.size ub mu (k + 1) R ys x.k wA hMA.tu HIK.out hxk
          rw [hf] at hP
          have HMA := Lib.hid hMA
          clear hMA hrowA hra
          go_wp2_with fail
          refine hP.mono ?_
          rintro e wB ⟨⟨A9, n9, c9, hPB⟩, rfl⟩
          rcases hPB with ⟨-, rfl⟩ | ⟨h9, -⟩
          · clear hP
            go_wp2
            go_quiet (fail)
            go_wp2
            go_roundg (m - (k + 1))
            case measure => omega
            case rel => exact ⟨k + 1, A7, n7, c7, by omega, by omega, by go_num, by rw [HS.out]; exact HMA.out.step (below_drewN (Below.refl _ _) _)⟩
          · exact absurd rfl h9
        · unfold LA.peekV at hP
          rw [hf] at hP
          dsimp only at hP
          have hk9 : y.o = x.k := by have := List.find?_some hf; simpa using this
          rw [hk9] at hP
          go_wp2_with fail
          refine hP.mono ?_
          rintro e w9 ⟨rfl, hb9⟩
          have hM9 := HM8.out.step hb9
          have hrow9 := row_keep HROW8.out hb9
          have hal := alloc_below w9 (.cells #[.string (bs x.k), .int .i64 y.id] 53)
          have hra := heap_alloc_new w9 (.cells #[.string (bs x.k), .int .i64 y.id] 53)
          have hMA := hM9.step hal
          have hrowA := row_keep hrow9 hal
          clear hP hb9 hM9 hrow9 hO1 hal HM8 HROW8
          go_upto_region 23 with fail
          generalize w9.alloc (.cells #[.string (bs x.k), .int .i64 y.id] 53) = wA at *
          generalize w9.heap.size = pb at *
          have hO1 : wA.cell? ⟨ob, 1, none⟩ = some (.string (bs x.k)) := by rw [cell_of_row _ _ _ _ _ _ hrowA]; rfl
          obtain ⟨p0, p1, -, -⟩ := row_facts2 hra
          obtain ⟨b0, b1, f0, f1⟩ := hMA.to3.cells
          have hP := LB.lruPeek_any w1.heap.size ub mu (k + 1) R ys x.k wA hMA.tu HIK.out hxk
          rw [hf] at hP
          have hkl2 := (List.getElem?_eq_some_iff.1 hy).1
          obtain ⟨g2, o2, y', rfl, hg2, HY2, d0, d1, d2⟩ := hMA.to3.own.rd.at_ (k := kk) (by have := HN7.out; omega)
          obtain rfl : y' = y := by have h1 := HY2.out; rw [hy] at h1; exact (Option.some.inj h1).symm
          have j0 : (0 : Int) ≤ (kk : Int) := by omega
          have j1 : (kk : Int) < (n7 : Int) := by have := HN7.out; omega
          have HMA := Lib.hid hMA
          clear hMA hrowA hra hf hy HY2 hk9
          go_wp2_with fail
          refine hP.mono ?_
          rintro e wB ⟨⟨A9, n9, c9, hPB⟩, rfl⟩
          rcases hPB with ⟨h9, -⟩ | ⟨-, rfl, hva⟩
          · cases h9
          · clear hP
            have hcv := fun nq => (convL_bs (w := wA.drewN nq) (c := c9) hva).1
            have q1 : (x.k != x.k) = false := by simp
            have q2 : (y'.id != y'.id) = false := by simp
            clear hva
            go_wp2
            go_quiet (fail)
            go_wp2
            go_roundg (m - (k + 1))
            case measure => omega
            case rel => exact ⟨k + 1, _, n7, c7, by omega, by omega, by go_num, by rw [HS.out]; exact HMA.out.step (below_drewN (Below.refl _ _) _)⟩
    · obtain rfl : k = m := by omega
      generalize bndP R (sc.take k) = ys at *
      have hyl3 : ys.length ≤ 1000000 := by have := hko.2; omega
      have HM := Lib.hid hM
      have hK1 := LA.lruKeys_any w1.heap.size tb mt k R ys wo hM.ta hyl3
      clear hM hsr
      go_wp2_with fail
      refine hK1.mono ?_
      rintro e w2 ⟨A2, n2, c2, rfl, ho2, hx2, hb2⟩
      have hM2 := HM.out.step hb2
      have hr2 := ho2.rd
      have hK2 := LB.lruKeys_any w1.heap.size ub mu k R ys w2 hM2.tu hyl3
      have HM2 := Lib.hid hM2
      clear hK1 hM2 hx2
      go_wp2_with fail
      refine hK2.mono ?_
      rintro e w3 ⟨A3, n3, c3, rfl, ho3, hx3, hb3⟩
      have hM3 := HM2.out.step hb3
      have hS := same_keysP (c := c2) (d := c3) (hr2.step hb3) ho3.rd hyl3
      have HM3 := Lib.hid hM3
      clear hK2 hM3 hx3 ho2 ho3 hr2
      go_wp2_with fail
      refine hS.mono ?_
      rintro e w4 ⟨rfl, hb4⟩
      have hM4 := HM3.out.step hb4
      have hU1 := LA.lruUsed_any w1.heap.size tb mt k R ys w4 hM4.ta
      have hU2 := LB.lruUsed_any w1.heap.size ub mu k R ys w4 hM4.tu
      have hbz := bnext hb1 hM4.below hb1.size
      have q3 : (sumW ys == sumW ys) = true := by simp
      clear hS hM4
      go_wp2_with fail
      refine hU1.mono ?_
      rintro e w5 ⟨rfl, rfl⟩
      go_wp2_with fail
      refine hU2.mono ?_
      rintro e w6 ⟨rfl, rfl⟩
      go_wp2
      go_ret
      exact ⟨rfl, hbz⟩

theorem own : ownKnob Try.prog.godebug = none := by kernel_rfl
theorem contract (H : Type) (enc : TypeId × Value → H) (W : World) (base : Nat) (args : Array Value) (ds gs : List (DataW H)) (before : List MemPlace)
    (hval : ∀ (j : Nat) t v, Try.f4.params[j]? = some t → args[j]? = some v → Value.okWide Try.prog W .any base t v)
    (hW : DataW.Whole enc Try.prog Try.f4.params.toList Rows.lruPairsSpec.vars false W args.toList ds gs before) (hsz : (DataW.weightsEach Try.prog (Try.f4.params.toList ++ Rows.lruPairsSpec.plain.varTypes Try.prog) (ds ++ gs)).all (· ≤ reachBytes) = true) :
    Calls Try.prog 4 args W fun e W' => ∃ v, e = .returned v ∧ Rows.lruPairsSpec.post enc Try.prog Try.f4 false true false false W args v W' := by
  have hW' := hW
  obtain ⟨p, q, hA0, hV, rfl, hfz, hnd⟩ := hW
  have hA : DataW.TrodAll enc Try.prog W 0 (fun _ => true) true Try.f4.params.toList args.toList ds p := hA0
  rw [Try.params4] at hA hval hsz
  obtain ⟨v0, vs0, d0, ds0, p0, q0, hargs, rfl, rfl, h0, r0⟩ := trodAll_cons hA
  obtain ⟨v1, vs1, d1, ds1, p1, q1, rfl, rfl, rfl, h1, r1⟩ := trodAll_cons r0
  obtain ⟨rfl, rfl, rfl⟩ := trodAll_nil r1
  obtain rfl : args = #[v0, v1] := by cases args; simp_all
  obtain ⟨rfl, rfl⟩ := trodVars_none hV
  obtain ⟨i0, rfl, hi0, hj0⟩ := opI (hval 0 3 v0 rfl rfl) h0
  obtain ⟨A1, n1, c1, l1, rfl, hr1, hc1, hd1, he1⟩ := opOp14k (hval 1 22 v1 rfl rfl) h1
  clear hA0
  refine (walk W i0 hi0 hj0 A1 n1 c1 l1 hr1 hc1 hd1 he1).mono fun e W' ⟨he, hg⟩ => ?_
  subst he
  exact ⟨_, rfl, post_of_below (pa := p0 ++ (p1 ++ ([]))) (pv := []) hW' (fun _ _ _ => (trodAll_cons_mk (shut_bool Try.underlying4 _) trodAll_mk0)) (fun sp hsp => (trodAll_cons_mk (arg_stays laidOut (by kernel_rfl) (of_decide_eq_true (by kernel_rfl)) h0 hg (fun x hx => hW'.lt x (by simp [hx])) sp (fun x hx => hsp x (by simp [hx]))) (trodAll_cons_mk (arg_stays laidOut (by kernel_rfl) (of_decide_eq_true (by kernel_rfl)) h1 hg (fun x hx => hW'.lt x (by simp [hx])) sp (fun x hx => hsp x (by simp [hx]))) trodAll_mk0))) (fun _ _ => rfl) rfl
    hg (ok_one (by kernel_rfl) rfl (okWide_bool_mk Try.underlying4 _))⟩

set_option maxRecDepth 100000 in
theorem lifted (os : Os) (started : os.Started) (H : Type) (enc : TypeId × Value → H) :
    ReturnsInHanded {} Try.checked os 4 .any (Rows.lruPairsSpec.pre6 enc Try.prog Try.f4 Rows.lruPairsRow.domain false) (Rows.lruPairsSpec.post enc Try.prog Try.f4 false true false false) := by
  refine returnsInHanded_of_change_sized (C := Try.checked) own started (by kernel_rfl) Try.func4
    (ChangeSpec.witness6 (enc := enc) (C := Try.checked) false ⟨#[], #[.int .i64 0, .slice none 0 0], []⟩ 8 (by kernel_rfl) (by kernel_rfl) (by kernel_rfl) (by kernel_rfl)) ?_
  intro W base args ds gs before hval hW _ hsz _
  exact contract H enc W base args ds gs before hval hW hsz

theorem over : Rows.lruPairsRow.holds Try.pinned (OpenSpec.ofChange Rows.lruPairsSpec) :=
  OpenClaim.holds_of_wide 4 Try.f4 rfl rfl rfl rfl rfl rfl rfl ⟨rfl, rfl, rfl, rfl, rfl⟩ rfl rfl rfl rfl rfl (by kernel_rfl) Try.func4 (by kernel_rfl)
    (of_decide_eq_true (by kernel_rfl)) (by unfold Func.isWrapper; first | (rw [if_pos (by decide +kernel)]; kernel_rfl) | (rw [if_neg (by decide +kernel)]; exact ⟨rfl, rfl⟩))
    (fun os started H enc _ => lifted os started H enc)

theorem proved : Rows.LruPairsSaid :=
  over
end Go.Proofs.Ytepedjnmliclkaa.lruPairs
