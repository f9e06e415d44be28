/- LruNumbers: for every input the law answers true and leaves its arguments as they were. No conditions. -/
import Derived.Test.YtepedjnmliclkaaRows
import Derived.Test.YtepedjnmliclkaaLruN
import Derived.StillTailTactics
import Derived.Deep.LoopGhost
import Derived.Deep.RegionHeld3
import Derived.Deep.Cut
import Derived.Deep.DeepCutAuto
import Derived.Deep.CutBlock
import Derived.Test.YtepedjnmliclkaaOpenL
import Derived.WalkKit
import Derived.ProofKit
import Derived.OpenShut
import Derived.JoinedCond
set_option linter.unusedVariables false
set_option linter.unusedSimpArgs false
set_option maxRecDepth 100000
namespace Go.Proofs.Ytepedjnmliclkaa.lruNumbers
open Go.ChangeShapes Go.WideShapes Go.ChangeAt Go.RowKit

def wantL (s : List UInt8) (xs : List Cn) : Int := match findK s xs with | some y => y.id | none => 0
theorem wantL_some {s : List UInt8} {xs : List Cn} {y : Cn} (h : findK s xs = some y) : wantL s xs = y.id := by unfold wantL; rw [h]
theorem wantL_none {s : List UInt8} {xs : List Cn} (h : findK s xs = none) : wantL s xs = 0 := by unfold wantL; rw [h]
theorem lm3 {w0 w : World} {B tb rb : Nat} {R : Int} {mb N : Nat} {xs zs : List Cn} {A : Option Addr} {n c : Nat} (h : LM w0 w B tb rb R mb N xs zs A n c) : w.cell? ⟨rb, 0, none⟩ = some (.int .i64 R) ∧ w.cell? ⟨rb, 1, none⟩ = some (.slice A n c) ∧ LM w0 w B tb rb R mb N xs zs A n c := ⟨h.cells.1, h.cells.2.1, h⟩
theorem same_keys {w : World} {A B : Option Addr} {n m c d : Nat} {ys : List Cn} (hl : RdS w A n (ys.map (·.o))) (hr : RdS w B m (ys.map (·.o))) (h : ys.length ≤ 1000000) : Calls Try.prog 20 #[.slice A n c, .slice B m d] w fun e w' => e = .returned (.bool true) ∧ Below w.heap.size w w' := by
  have h1 := hl.1
  have h2 := hr.1
  simp at h1 h2
  have := sameTexts_any A B n m c d _ _ w hl hr (by omega) (by omega)
  rwa [beq_self_eq_true] at this
theorem used14_q {w0 w : World} {B tb rb : Nat} {R : Int} {mb N : Nat} {xs zs : List Cn} {A : Option Addr} {n c : Nat} (h : LM w0 w B tb rb R mb N xs zs A n c) (hn : n ≤ 1000000) (hs : ∀ k, 0 ≤ sumW (zs.take k) ∧ sumW (zs.take k) ≤ 1073741824) :
    Calls Try.prog 27 #[.agg #[.int .i64 R, .slice A n c]] w fun e w' => e = .returned (.int .i64 (sumW zs)) ∧ Below w.heap.size w w' := used14_any R A n c zs w h.own.rd hn hs
theorem keys14_q {w0 w : World} {B tb rb : Nat} {R : Int} {mb N : Nat} {xs zs : List Cn} {A : Option Addr} {n c : Nat} (h : LM w0 w B tb rb R mb N xs zs A n c) (hn : n ≤ 1000000) :
    Calls Try.prog 29 #[.agg #[.int .i64 R, .slice A n c]] w fun e w' => ∃ A' n' c', e = .returned (.slice A' n' c') ∧ OwnS w' w.heap.size (.slice A' n' c') (zs.map (·.o)) ∧ Below w.heap.size w w' := keys14_any R A n c zs w h.own.rd hn
set_option maxRecDepth 100000 in
set_option maxHeartbeats 4000000 in
theorem walk (w : World) (room : Int) (hm1 : -9223372036854775808 ≤ room) (hm2 : room ≤ 9223372036854775807)
    (A : Option Addr) (n c : Nat) (l : List Op4) (hA : RdO w A n l) (hnc : n ≤ c) (hcm : c ≤ 9223372036854775807) (hkl : ∀ x ∈ l, x.k.length ≤ maxLen) :
    Calls Try.prog 3 #[.int .i64 room, .slice A n c] w fun e w' => e = .returned (.bool true) ∧ Below w.heap.size w w' := by
  have hR0 : 0 ≤ roomL room := by unfold roomL; split <;> (try split) <;> omega
  have hR1 : roomL room ≤ 1073741824 := by unfold roomL; split <;> (try split) <;> omega
  go_enter Try.func3, Try.ntmps3
  go_wp2_with fail
  refine (alive14_any w).mono ?_
  rintro e w1 ⟨rfl, hb1⟩
  have hl1 := hA.step hb1
  go_wp2_with fail
  refine (lruNew_any room w1).mono ?_
  rintro e w2 ⟨tb, mb, rfl, hp2, hb2⟩
  have hl2 := hl1.step hb2
  go_wp2_with fail
  refine (new14_any room w2).mono ?_
  rintro e w3 ⟨rfl, hb3⟩
  have hl3 := hl2.step hb3
  have hp3 := hp2.step hb3
  unfold tabV
  generalize roomL room = R at *
  have hal := alloc_below w3 (.cells #[.int .i64 R, .slice none 0 0] 28)
  have hro := heap_alloc_new w3 (.cells #[.int .i64 R, .slice none 0 0] 28)
  have hl4 := hl3.step hal
  have hbX := bnext hb2 (bnext hb3 hal hb3.size) hb2.size
  have hM : LM w1 (w3.alloc (.cells #[.int .i64 R, .slice none 0 0] 28)) w1.heap.size tb w3.heap.size R mb 0 [] [] none 0 0 :=
    ⟨hp3.step hal, hro, OwnT.nil _ _ _, hbX, Nat.le_refl _, Nat.le_trans hb2.size hb3.size⟩
  clear hal hro hl1 hl2 hl3 hp2 hp3 hb2 hb3 hbX
  go_wp2_with fail
  generalize w3.alloc (.cells #[.int .i64 R, .slice none 0 0] 28) = w4 at *
  generalize w3.heap.size = rb at *
  refine (cutL_any A n c l w4 hl4 hnc hcm).mono ?_
  rintro e w5 ⟨m, rfl, hm3, hmc, hl5, rfl⟩
  have hsc := cut_back hA hl5
  have HKL : Hid (∀ x ∈ l.take 300, x.k.length ≤ maxLen) := Lib.hid fun x hx => hkl x (List.mem_of_mem_take hx)
  generalize l.take 300 = sc at *
  have hlen := hsc.1
  clear hA hl4 hl5 hkl
  go_wp2
  go_loopg [7] m (fun r t wr => ∃ (k : Nat) (A5 : Option Addr) (n5 c5 : Nat), k ≤ m ∧ r + k = m ∧ t = .int .i64 k ∧ LM w1 wr w1.heap.size tb rb R mb k (bndN R (sc.take k)) (bndN R (sc.take k)) A5 n5 c5)
  case atStart => exact ⟨0, none, 0, 0, by omega, by omega, rfl, hM⟩
  case round =>
    clear hM
    obtain ⟨k, A5, n5, c5, hk, hr, rfl, hM⟩ := hrel
    obtain ⟨wo, rfl⟩ : ∃ wo, wo = wr := ⟨_, rfl⟩
    have hbw := bnext hb1 hM.below hb1.size
    have hsr := hsc.step hbw
    by_cases hlt : k < m
    · obtain ⟨g, o, x, rfl, hg, HX, c0, c1, c2, c3⟩ := hsr.at_ hlt
      have k0 : (0 : Int) ≤ (k : Int) := by omega
      have k1 : (k : Int) < (m : Int) := by omega
      have hko := bndN_ok hR0 hR1 sc HKL.out k
      have hxk := HKL.out x (mem_of_get? HX.out)
      have HS := Lib.hid (bndN_snoc (R := R) HX.out)
      generalize bndN R (sc.take k) = xs at *
      have HY := Lib.hid (stepN_ok (o := x) hko.1 hxk)
      have HSB : Hid (stepN R xs x = if x.w = 1 then (lputL R x.k x.a x.b xs).1 else if x.w = 2 then (match findK x.k xs with | some y => y :: woL x.k xs | none => xs) else if x.w = 4 then woL x.k xs else xs) := Lib.hid rfl
      generalize stepN R xs x = ys at *
      have hal := alloc_below wo (.cells #[.int .i64 x.w, .string (bs x.k), .int .i64 x.a, .int .i64 x.b] 32)
      have hrow := heap_alloc_new wo (.cells #[.int .i64 x.w, .string (bs x.k), .int .i64 x.a, .int .i64 x.b] 32)
      have hMx := hM.step hal
      have hO0 : (wo.alloc (.cells #[.int .i64 x.w, .string (bs x.k), .int .i64 x.a, .int .i64 x.b] 32)).cell? ⟨wo.heap.size, 0, none⟩ = some (.int .i64 x.w) := by rw [cell_of_row _ _ _ _ _ _ hrow]; rfl
      have hO1 : (wo.alloc (.cells #[.int .i64 x.w, .string (bs x.k), .int .i64 x.a, .int .i64 x.b] 32)).cell? ⟨wo.heap.size, 1, none⟩ = some (.string (bs x.k)) := by rw [cell_of_row _ _ _ _ _ _ hrow]; rfl
      obtain ⟨b0, b1, f0, f1⟩ := hMx.cells
      clear hal hM hbw hsr
      go_upto_region 10 with fail
      generalize wo.alloc (.cells #[.int .i64 x.w, .string (bs x.k), .int .i64 x.a, .int .i64 x.b] 32) = wx at *
      generalize wo.heap.size = ob at *
      have hn5 : xs.length = n5 := hMx.own.rd.1
      have hC := at14_any R A5 n5 c5 xs x.k wx hMx.own.rd (by omega)
      unfold tabV at hC
      have HMX := Lib.hid hMx
      have HROW := Lib.hid hrow
      have HN5 := Lib.hid hn5
      clear hMx hrow hn5 c0 c1 c2 c3
      go_wp2_with fail
      refine hC.mono ?_
      rintro e w6 ⟨rfl, hb6⟩
      have HM6 := Lib.hid (HMX.out.step hb6)
      have HROW6 := Lib.hid (row_keep HROW.out hb6)
      have HAT := Lib.hid (atR_find x.k xs 0)
      generalize atR x.k xs 0 = kx at *
      obtain ⟨b0, b1, f0, f1⟩ := HM6.out.cells
      clear hC hb6 HMX HROW hO0 hO1
      go_upto_if 43 with fail
      have hkz : (kx = -1 ∧ findK x.k xs = none) ∨ ∃ (kk : Nat) (y : Cn), kx = (kk : Int) ∧ xs[kk]? = some y ∧ findK x.k xs = some y := by
        rcases HAT.out with h | ⟨kk, y, h1, h2, h3⟩
        · exact .inl h
        · exact .inr ⟨kk, y, by rw [h1]; simp, h2, h3⟩
      have HKZ := Lib.hid hkz
      clear hkz HAT
      go_cut [10] (fun v wc => v = .int .i64 (wantL x.k xs) ∧ w6 = wc)
      case first =>
        rcases HKZ.out with ⟨rfl, hf⟩ | ⟨kk, y, rfl, hy, hf⟩
        · have HW := Lib.hid (wantL_none hf)
          clear hf
          go_wp2
          go_meet
          case rel => exact ⟨by rw [HW.out], rfl⟩
        · have HW := Lib.hid (wantL_some hf)
          have hkl2 := (List.getElem?_eq_some_iff.1 hy).1
          have hn6 := HN5.out
          obtain ⟨g2, o2, y', rfl, hg2, HY2, d0, d1, d2⟩ := HM6.out.own.rd.at_ (k := kk) (by omega)
          obtain rfl : y' = y := by have h1 := HY2.out; rw [hy] at h1; exact (Option.some.inj h1).symm
          have j0 : (0 : Int) ≤ (kk : Int) := by omega
          have j1 : (kk : Int) < (n5 : Int) := by omega
          clear hf hy HY2
          go_wp2
          go_meet
          case rel => exact ⟨by rw [HW.out], rfl⟩
      case rest =>
        obtain ⟨rfl, rfl⟩ := hcut
        generalize hwt : wantL x.k xs = want at *
        have HWT := Lib.hid hwt
        clear hwt
        have hO0 : w6.cell? ⟨ob, 0, none⟩ = some (.int .i64 x.w) := by rw [cell_of_row _ _ _ _ _ _ HROW6.out]; rfl
        have hO1 : w6.cell? ⟨ob, 1, none⟩ = some (.string (bs x.k)) := by rw [cell_of_row _ _ _ _ _ _ HROW6.out]; rfl
        go_upto_block 2 with fail
        go_cut [7] (fun v wc => v = .int .i64 k ∧ ∃ (A7 : Option Addr) (n7 c7 : Nat), LM w1 wc w1.heap.size tb rb R mb (k + 1) ys ys A7 n7 c7)
        case first =>
          by_cases hw1 : x.w = 1
          · have hwb : (x.w == 1) = true := by simp [hw1]
            rw [if_pos hw1] at HSB
            have hO2 : w6.cell? ⟨ob, 2, none⟩ = some (.int .i64 x.a) := by rw [cell_of_row _ _ _ _ _ _ HROW6.out]; rfl
            have hO3 : w6.cell? ⟨ob, 3, none⟩ = some (.int .i64 x.b) := by rw [cell_of_row _ _ _ _ _ _ HROW6.out]; rfl
            have hP := lruPut_any w1.heap.size tb mb k R xs x.k x.a x.b w6 HM6.out.lru hko.1 hR0 hxk (by omega) (by omega)
            clear hw1
            go_wp2_with fail
            refine hP.mono ?_
            rintro e w7 ⟨A6, n6, c6, rfl, ho6, hp7, ht7⟩
            rw [← HSB.out] at hp7
            have hM7 := HM6.out.turn hp7 ht7
            have hrow7 := row_turn ht7 HROW6.out (by decide) (by decide)
            have hn6 := ho6.rd
            have hQ := put14_any R A5 n5 c5 xs x.k x.a x.b w7 hM7.own.rd (by have := HN5.out; omega) hko.1 hR0
            have hO1 : w7.cell? ⟨ob, 1, none⟩ = some (.string (bs x.k)) := by rw [cell_of_row _ _ _ _ _ _ hrow7]; rfl
            have hO2 : w7.cell? ⟨ob, 2, none⟩ = some (.int .i64 x.a) := by rw [cell_of_row _ _ _ _ _ _ hrow7]; rfl
            have hO3 : w7.cell? ⟨ob, 3, none⟩ = some (.int .i64 x.b) := by rw [cell_of_row _ _ _ _ _ _ hrow7]; rfl
            obtain ⟨b0, b1, f0, f1⟩ := hM7.cells
            have HM7 := Lib.hid hM7
            have HLN := Lib.hid (lputL_len R x.k x.a x.b xs).2
            clear hP ht7 hp7 hrow7 ho6 hM7
            rw [← HSB.out] at hQ
            generalize (lputL R x.k x.a x.b xs).2.1 = gone at *
            generalize (lputL R x.k x.a x.b xs).2.2 = pb at *
            unfold tabV at hQ
            go_wp2_with fail
            refine hQ.mono ?_
            rintro e w8 ⟨A7, n7, c7, G, gn, gc, rfl, hr8, hg8, hk8, hb8⟩
            have hM8 := HM7.out.step hb8
            have ho8 := hk8 (rb + 1) HM7.out.lt HM7.out.own
            have hal := alloc_below w8 (.cells #[.int .i64 R, .slice A7 n7 c7] 28)
            have hro := heap_alloc_new w8 (.cells #[.int .i64 R, .slice A7 n7 c7] 28)
            have hM9 := hM8.step hal
            have ho9 := ho8.step hal
            have hs6 := hn6.step (hb8.trans (hal.mono hb8.size))
            have hg9 := hg8.step hal
            clear hQ hb8 hM8 ho8 hk8 hr8 hg8 hn6 hal
            go_upto_region 18 with fail
            generalize w8.alloc (.cells #[.int .i64 R, .slice A7 n7 c7] 28) = w9 at *
            generalize w8.heap.size = nb at *
            obtain ⟨b0, b1, f0, f1⟩ := hM9.cells
            obtain ⟨d0, d1, -, -⟩ := row_facts2 hro
            have hMA := hM9.store ho9
            have hsA := hM9.rdS hs6 (.slice A7 n7 c7) (by simp)
            have hgA := hM9.rdS hg9 (.slice A7 n7 c7) (by simp)
            have hpp : (pb != pb) = false := by simp
            have hns := hs6.1
            have hng := hg9.1
            have hnl := HLN.out
            have hS := sameTexts_any A6 G n6 gn c6 gc gone gone _ hsA hgA (by omega) (by omega)
            rw [beq_self_eq_true] at hS
            clear hM9 ho9 hs6 hg9 hro hns hng hnl
            go_upto_region 19 with fail
            generalize (w9.setCell ⟨rb, 0, none⟩ (.int .i64 R)).setCell ⟨rb, 1, none⟩ (.slice A7 n7 c7) = wA at *
            clear b0 b1 f0 f1 d0 d1
            go_wp2_with fail
            refine hS.mono ?_
            rintro e wB ⟨rfl, hbB⟩
            go_wp2
            go_meet
            case rel => exact ⟨rfl, A7, n7, c7, hMA.step hbB⟩
          · have hwb : (x.w == 1) = false := by simp [hw1]
            rw [if_neg hw1] at HSB
            by_cases hw2 : x.w = 2
            · have hwb2 : (x.w == 2) = true := by simp [hw2]
              rw [if_pos hw2] at HSB
              have hT := lruGet_any w1.heap.size tb mb k R xs x.k w6 HM6.out.lru hko.1 hxk
              rcases HKZ.out with ⟨rfl, hf⟩ | ⟨kk, y, rfl, hy, hf⟩
              · have hw0 : (0 : Int) = want := by rw [← HWT.out, wantL_none hf]
                subst hw0
                unfold peekV at hT
                rw [hf] at hT HSB
                dsimp only at hT
                clear hw1 hw2 hf
                go_wp2_with fail
                refine hT.mono ?_
                rintro e w7 ⟨rfl, hp7, ht7⟩
                have HM7 := Lib.hid ((HM6.out.turn hp7 ht7).more (show k ≤ k + 1 by omega))
                clear hT hp7 ht7
                go_wp2
                go_meet
                case rel => exact ⟨rfl, A5, n5, c5, by rw [HSB.out]; exact HM7.out⟩
              · have hw0 : y.id = want := by rw [← HWT.out, wantL_some hf]
                unfold peekV at hT
                rw [hf] at hT HSB
                dsimp only at hT
                have HOK := Lib.hid (List.find?_some hf)
                rw [hw0] at hT
                have j0 : (0 : Int) ≤ (kk : Int) := by omega
                have hkl2 := (List.getElem?_eq_some_iff.1 hy).1
                have hn6 := HN5.out
                have j1 : (kk : Int) < (n5 : Int) := by omega
                have HY3 := Lib.hid hy
                have HW0 := Lib.hid hw0
                clear hw1 hw2 hf hy hw0
                go_wp2_with fail
                refine hT.mono ?_
                rintro e w7 ⟨rfl, hp7, ht7⟩
                have hM7 := (HM6.out.turn hp7 ht7).more (show k ≤ k + 1 by omega)
                obtain ⟨g2, o2, y', rfl, hg2, HY2, d0, d1, d2⟩ := hM7.own.rd.at_ (k := kk) (by omega)
                obtain rfl : y' = y := by have h1 := HY2.out; rw [HY3.out] at h1; exact (Option.some.inj h1).symm
                have hF := first14_any R (some ⟨g2, o2, none⟩) n5 c5 xs y' w7.drew hM7.drew.own.rd (by omega)
                obtain ⟨b0, b1, f0, f1⟩ := hM7.cells
                have HM7 := Lib.hid hM7
                have hk9 : y'.o = x.k := by have := HOK.out; simpa using this
                have HK9 := Lib.hid hk9
                unfold tabV itV at hF
                clear hT hp7 ht7 hM7 HY2 hk9
                go_wp2
                go_still_tail 6, (by kernel_rfl)
                change wpList _ _ _ _ _ w7.drew
                go_wp2_with fail
                refine hF.mono ?_
                rintro e w8 ⟨A8, n8, c8, rfl, ho8, hb8⟩
                have hM8 := HM7.out.drew.step hb8
                obtain ⟨b0, b1, f0, f1⟩ := hM8.cells
                have hM9 := hM8.store (ho8.mono (by have := HM7.out.lt; simp; omega))
                have HM9 := Lib.hid hM9
                clear hF hb8 hM8 ho8 hM9 d0 d1 d2
                go_wp2
                go_meet
                case rel => exact ⟨rfl, A8, n8, c8, by rw [HSB.out, ← HK9.out]; have h9 := HM9.out; rw [← HK9.out] at h9; exact h9⟩
            · have hwb2 : (x.w == 2) = false := by simp [hw2]
              rw [if_neg hw2] at HSB
              by_cases hw4 : x.w = 4
              · have hwb4 : (x.w == 4) = true := by simp [hw4]
                have hwb3 : (x.w == 3) = false := by simp [hw4]
                rw [if_pos hw4] at HSB
                have hT := lruDrop_any w1.heap.size tb mb k R xs x.k w6 HM6.out.lru hko.1 hxk
                have hbk : ((findK x.k xs).isSome = true ∧ 0 ≤ kx) ∨ ((findK x.k xs).isSome = false ∧ kx < 0) := by
                  rcases HKZ.out with ⟨h1, hf⟩ | ⟨kk, y, h1, hy, hf⟩
                  · rw [hf, h1]; exact .inr ⟨rfl, by omega⟩
                  · rw [hf, h1]; exact .inl ⟨rfl, by omega⟩
                clear hw1 hw2 hw4
                rcases hbk with ⟨hi1, hi2⟩ | ⟨hi1, hi2⟩
                all_goals
                  rw [hi1] at hT
                  clear hi1
                  go_wp2_with fail
                  refine hT.mono ?_
                  rintro e w7 ⟨rfl, hp7, ht7⟩
                  rw [← HSB.out] at hp7
                  have hM7 := (HM6.out.turn hp7 ht7).more (show k ≤ k + 1 by omega)
                  have hrow7 := row_turn ht7 HROW6.out (by decide) (by decide)
                  have hO1 : w7.cell? ⟨ob, 1, none⟩ = some (.string (bs x.k)) := by rw [cell_of_row _ _ _ _ _ _ hrow7]; rfl
                  have hC := without14_any R A5 n5 c5 xs x.k w7 hM7.own.rd (by have := HN5.out; omega)
                  rw [← HSB.out] at hC
                  obtain ⟨b0, b1, f0, f1⟩ := hM7.cells
                  have HM7 := Lib.hid hM7
                  unfold tabV at hC
                  clear hT hp7 ht7 hrow7 hM7
                  go_wp2_with fail
                  refine hC.mono ?_
                  rintro e w8 ⟨A8, n8, c8, rfl, ho8, hb8⟩
                  have hM8 := HM7.out.step hb8
                  obtain ⟨b0, b1, f0, f1⟩ := hM8.cells
                  have HM9 := Lib.hid (hM8.store (ho8.mono (by have := HM7.out.lt; omega)))
                  clear hC hb8 hM8 ho8
                  go_wp2
                  go_meet
                  case rel => exact ⟨rfl, A8, n8, c8, HM9.out⟩
              · have hwb4 : (x.w == 4) = false := by simp [hw4]
                rw [if_neg hw4] at HSB
                have HMY : Hid (LM w1 w6 w1.heap.size tb rb R mb (k + 1) ys ys A5 n5 c5) := Lib.hid (by rw [HSB.out]; exact HM6.out.more (by omega))
                by_cases hw3 : x.w = 3
                · have hwb3 : (x.w == 3) = true := by simp [hw3]
                  have hT := lruPeek_any w1.heap.size tb mb k R xs x.k w6 HM6.out.lru hko.1.keys hxk
                  rcases HKZ.out with ⟨rfl, hf⟩ | ⟨kk, y, rfl, hy, hf⟩
                  · have hw0 : (0 : Int) = want := by rw [← HWT.out, wantL_none hf]
                    subst hw0
                    unfold peekV at hT
                    rw [hf] at hT
                    dsimp only at hT
                    clear hw1 hw2 hw3 hw4 hf
                    go_wp2_with fail
                    refine hT.mono ?_
                    rintro e w7 ⟨rfl, rfl⟩
                    clear hT
                    go_wp2
                    go_meet
                    case rel => exact ⟨rfl, A5, n5, c5, HMY.out⟩
                  · have hw0 : y.id = want := by rw [← HWT.out, wantL_some hf]
                    unfold peekV at hT
                    rw [hf] at hT
                    dsimp only at hT
                    rw [hw0] at hT
                    have j0 : (0 : Int) ≤ (kk : Int) := by omega
                    clear hw1 hw2 hw3 hw4 hf hy hw0
                    go_wp2_with fail
                    refine hT.mono ?_
                    rintro e w7 ⟨rfl, rfl⟩
                    clear hT
                    go_wp2
                    go_meet
                    case rel => exact ⟨rfl, A5, n5, c5, HMY.out⟩
                · have hwb3 : (x.w == 3) = false := by simp [hw3]
                  clear hw1 hw2 hw3 hw4
                  go_wp2
                  go_meet
                  case rel => exact ⟨rfl, A5, n5, c5, HMY.out⟩
        case rest =>
          obtain ⟨rfl, A7, n7, c7, hM7⟩ := hcut
          clear HM6 HROW6 hO0 hO1 HKZ HWT b0 b1 f0 f1
          obtain ⟨hiy, hyl⟩ := HY.out
          have hyl2 : ys.length ≤ 1000 := by omega
          have hn7 : ys.length = n7 := hM7.own.rd.1
          have hn7' : n7 ≤ 1000000 := by omega
          have HYS : Hid (∀ k, 0 ≤ sumW (ys.take k) ∧ sumW (ys.take k) ≤ 1073741824) := Lib.hid (sum_take hiy)
          have HML := Lib.hid hn7
          have hMd := hM7.drew
          obtain ⟨b0, b1, f0, f1⟩ := hM7.cells
          have HMd := Lib.hid hMd
          have hus : (sumW ys != sumW ys) = false := by simp
          have hyl3 : ys.length ≤ 1000000 := by omega
          clear hM7 hMd hn7 hiy
          go_upto_region 35 with fail
          go_cut [157] (fun v wy => v = .bool false ∧ LM w1 wy w1.heap.size tb rb R mb (k + 1) ys ys A7 n7 c7)
          case first =>
            go_region_held3 (fun w' => w'.cell? ⟨rb, 0, none⟩ = some (.int .i64 R) ∧ w'.cell? ⟨rb, 1, none⟩ = some (.slice A7 n7 c7) ∧ LM w1 w' w1.heap.size tb rb R mb (k + 1) ys ys A7 n7 c7)
              ((first | exact lm3 HMd.out | exact lm3 hN8 | exact lm3 hN9 | exact lm3 hN9b | exact lm3 hN10 | exact lm3 hN10b | exact lm3 hN11))
              ((first
                | (go_at_call 26; (with_reducible refine (lruUsed_any w1.heap.size tb mb (k + 1) R ys wc.drew HMd.out.lru).mono ?_); rintro e w' ⟨rfl, rfl⟩)
                | (go_at_call 26; (with_reducible refine (lruUsed_any w1.heap.size tb mb (k + 1) R ys w8 hN8.lru).mono ?_); rintro e w' ⟨rfl, rfl⟩)
                | (go_at_call 27; (with_reducible refine (used14_q HMd.out hn7' HYS.out).mono ?_); rintro e w8 ⟨rfl, hb8⟩; have hN8 := HMd.out.step hb8)
                | (go_at_call 28; (with_reducible refine (lruKeys_any w1.heap.size tb mb (k + 1) R ys w8 hN8.lru hyl3).mono ?_); rintro e w9 ⟨A9, n9, c9, rfl, ho9, hp9, hb9⟩; have hN9 := hN8.step hb9; have hr9 := ho9.rd)
                | (go_at_call 29; (with_reducible refine (keys14_q hN8 hn7').mono ?_); rintro e w9b ⟨A9, n9, c9, rfl, ho9, hb9⟩; have hN9b := hN8.step hb9; have hr9 := ho9.rd)
                | (go_at_call 29; (with_reducible refine (keys14_q hN9 hn7').mono ?_); rintro e w10 ⟨A10, n10, c10, rfl, ho10, hb10⟩; have hN10 := hN9.step hb10; have hr10 := ho10.rd; have hr9x := hr9.step hb10)
                | (go_at_call 28; (with_reducible refine (lruKeys_any w1.heap.size tb mb (k + 1) R ys w9b hN9b.lru hyl3).mono ?_); rintro e w10b ⟨A10, n10, c10, rfl, ho10, hp10, hb10⟩; have hN10b := hN9b.step hb10; have hr10 := ho10.rd; have hr9x := hr9.step hb10)
                | (go_at_call 20; have hS := same_keys (c := c9) (d := c10) hr9x hr10 hyl3; (with_reducible refine hS.mono ?_); rintro e w11 ⟨rfl, hb11⟩; have hN11 := hN10.step hb11)
                | (go_at_call 20; have hS := same_keys (c := c10) (d := c9) hr10 hr9x hyl3; (with_reducible refine hS.mono ?_); rintro e w11 ⟨rfl, hb11⟩; have hN11 := hN10b.step hb11)))
            all_goals
              go_wp2
              go_meet
              case rel => exact ⟨rfl, hN11⟩
          case rest =>
            obtain ⟨rfl, hM8⟩ := hcut
            go_wp2
            go_roundg (m - (k + 1))
            case measure => omega
            case rel => exact ⟨k + 1, A7, n7, c7, by omega, by omega, by go_num, by rw [HS.out]; exact hM8⟩
    · go_wp2
      go_ret
      exact ⟨rfl, hbw⟩

theorem own : ownKnob Try.prog.godebug = none := by kernel_rfl
theorem contract (H : Type) (enc : TypeId × Value → H) (W : World) (base : Nat) (args : Array Value) (ds gs : List (DataW H)) (before : List MemPlace)
    (hval : ∀ (j : Nat) t v, Try.f3.params[j]? = some t → args[j]? = some v → Value.okWide Try.prog W .any base t v)
    (hW : DataW.Whole enc Try.prog Try.f3.params.toList Rows.lruNumbersSpec.vars false W args.toList ds gs before) (hsz : (DataW.weightsEach Try.prog (Try.f3.params.toList ++ Rows.lruNumbersSpec.plain.varTypes Try.prog) (ds ++ gs)).all (· ≤ reachBytes) = true) :
    Calls Try.prog 3 args W fun e W' => ∃ v, e = .returned v ∧ Rows.lruNumbersSpec.post enc Try.prog Try.f3 false true false false W args v W' := by
  have hW' := hW
  obtain ⟨p, q, hA0, hV, rfl, hfz, hnd⟩ := hW
  have hA : DataW.TrodAll enc Try.prog W 0 (fun _ => true) true Try.f3.params.toList args.toList ds p := hA0
  rw [Try.params3] at hA hval hsz
  obtain ⟨v0, vs0, d0, ds0, p0, q0, hargs, rfl, rfl, h0, r0⟩ := trodAll_cons hA
  obtain ⟨v1, vs1, d1, ds1, p1, q1, rfl, rfl, rfl, h1, r1⟩ := trodAll_cons r0
  obtain ⟨rfl, rfl, rfl⟩ := trodAll_nil r1
  obtain rfl : args = #[v0, v1] := by cases args; simp_all
  obtain ⟨rfl, rfl⟩ := trodVars_none hV
  obtain ⟨i0, rfl, hi0, hj0⟩ := opI (hval 0 3 v0 rfl rfl) h0
  obtain ⟨A1, n1, c1, l1, rfl, hr1, hc1, hd1, he1⟩ := opOp14k (hval 1 22 v1 rfl rfl) h1
  clear hA0
  refine (walk W i0 hi0 hj0 A1 n1 c1 l1 hr1 hc1 hd1 he1).mono fun e W' ⟨he, hg⟩ => ?_
  subst he
  exact ⟨_, rfl, post_of_below (pa := p0 ++ (p1 ++ ([]))) (pv := []) hW' (fun _ _ _ => (trodAll_cons_mk (shut_bool Try.underlying4 _) trodAll_mk0)) (fun sp hsp => (trodAll_cons_mk (arg_stays laidOut (by kernel_rfl) (of_decide_eq_true (by kernel_rfl)) h0 hg (fun x hx => hW'.lt x (by simp [hx])) sp (fun x hx => hsp x (by simp [hx]))) (trodAll_cons_mk (arg_stays laidOut (by kernel_rfl) (of_decide_eq_true (by kernel_rfl)) h1 hg (fun x hx => hW'.lt x (by simp [hx])) sp (fun x hx => hsp x (by simp [hx]))) trodAll_mk0))) (fun _ _ => rfl) rfl
    hg (ok_one (by kernel_rfl) rfl (okWide_bool_mk Try.underlying4 _))⟩

set_option maxRecDepth 100000 in
theorem lifted (os : Os) (started : os.Started) (H : Type) (enc : TypeId × Value → H) :
    ReturnsInHanded {} Try.checked os 3 .any (Rows.lruNumbersSpec.pre6 enc Try.prog Try.f3 Rows.lruNumbersRow.domain false) (Rows.lruNumbersSpec.post enc Try.prog Try.f3 false true false false) := by
  refine returnsInHanded_of_change_sized (C := Try.checked) own started (by kernel_rfl) Try.func3
    (ChangeSpec.witness6 (enc := enc) (C := Try.checked) false ⟨#[], #[.int .i64 0, .slice none 0 0], []⟩ 8 (by kernel_rfl) (by kernel_rfl) (by kernel_rfl) (by kernel_rfl)) ?_
  intro W base args ds gs before hval hW _ hsz _
  exact contract H enc W base args ds gs before hval hW hsz

theorem over : Rows.lruNumbersRow.holds Try.pinned (OpenSpec.ofChange Rows.lruNumbersSpec) :=
  OpenClaim.holds_of_wide 3 Try.f3 rfl rfl rfl rfl rfl rfl rfl ⟨rfl, rfl, rfl, rfl, rfl⟩ rfl rfl rfl rfl rfl (by kernel_rfl) Try.func3 (by kernel_rfl)
    (of_decide_eq_true (by kernel_rfl)) (by unfold Func.isWrapper; first | (rw [if_pos (by decide +kernel)]; kernel_rfl) | (rw [if_neg (by decide +kernel)]; exact ⟨rfl, rfl⟩))
    (fun os started H enc _ => lifted os started H enc)

theorem proved : Rows.LruNumbersSaid :=
  over
end Go.Proofs.Ytepedjnmliclkaa.lruNumbers
