/- PoolSteps: for every input the law answers true and leaves its arguments as they were. No conditions. -/
import Derived.Test.YtepedjnmliclkaaRows
import Derived.Test.YtepedjnmliclkaaPoolS
import Derived.StillTailTactics
import Derived.Deep.LoopGhost
import Derived.Deep.RegionHeld3
import Derived.Deep.Cut
import Derived.Deep.DeepCutAuto
import Derived.Deep.CutBlock
import Derived.Test.YtepedjnmliclkaaOpenO
import Derived.WalkKit
import Derived.ProofKit
import Derived.OpenShut
import Derived.JoinedCond
set_option linter.unusedVariables false
set_option linter.unusedSimpArgs false
set_option maxRecDepth 100000
namespace Go.Proofs.Ytepedjnmliclkaa.poolSteps
open Go.ChangeShapes Go.WideShapes Go.ChangeAt Go.RowKit

theorem pm5 {w0 w : World} {B pb rb : Nat} {m e i : Int} {xs zs : List Cn} {A : Option Addr} {n c : Nat} (h : PM w0 w B pb rb m e i xs zs A n c) : w.cell? ⟨rb, 0, none⟩ = some (.int .i64 m) ∧ w.cell? ⟨rb, 1, none⟩ = some (.int .i64 e) ∧ w.cell? ⟨rb, 2, none⟩ = some (.int .i64 i) ∧ w.cell? ⟨rb, 3, none⟩ = some (.slice A n c) ∧ PM w0 w B pb rb m e i xs zs A n c := ⟨h.cells.1.1, h.cells.1.2.1, h.cells.1.2.2.1, h.cells.1.2.2.2, h⟩
theorem same_ids {w : World} {A B : Option Addr} {n m c d : Nat} {l : List Int} (hl : RdI w A n l) (hr : RdI w B m l) (h : l.length ≤ 1000000) : Calls Try.prog 49 #[.slice A n c, .slice B m d] w fun e w' => e = .returned (.bool true) ∧ Below w.heap.size w w' := by
  have h1 := hl.1
  have h2 := hr.1
  have := sameInts_any A B n m c d _ _ w hl hr (by omega) (by omega)
  rwa [beq_self_eq_true] at this
theorem ids23_q {w0 w : World} {B pb rb : Nat} {m e i : Int} {xs zs : List Cn} {A : Option Addr} {n c : Nat} (h : PM w0 w B pb rb m e i xs zs A n c) (hn : n ≤ 1000000) :
    Calls Try.prog 56 #[.agg #[.int .i64 m, .int .i64 e, .int .i64 i, .slice A n c]] w fun x w' => ∃ A' n' c', x = .returned (.slice A' n' c') ∧ OwnI w' w.heap.size (.slice A' n' c') (zs.map (·.id)) ∧ Below w.heap.size w w' := ids23_any m e i A n c zs w h.own.rd hn
set_option maxRecDepth 100000 in
set_option maxHeartbeats 4000000 in
theorem walk (w : World) (most : Int) (hm1 : -9223372036854775808 ≤ most) (hm2 : most ≤ 9223372036854775807) (each : Int) (he1 : -9223372036854775808 ≤ each) (he2 : each ≤ 9223372036854775807) (idle : Int) (hi1 : -9223372036854775808 ≤ idle) (hi2 : idle ≤ 9223372036854775807)
    (A : Option Addr) (n c : Nat) (l : List Op4) (hA : RdO w A n l) (hnc : n ≤ c) (hcm : c ≤ 9223372036854775807) :
    Calls Try.prog 9 #[.int .i64 most, .int .i64 each, .int .i64 idle, .slice A n c] w fun e w' => e = .returned (.bool true) ∧ Below w.heap.size w w' := by
  have hm0 : 0 ≤ upL most := by unfold upL; split <;> omega
  have he0 : 0 ≤ upL each := by unfold upL; split <;> omega
  go_enter Try.func9, Try.ntmps9
  go_wp2_with fail
  refine (alive_any w).mono ?_
  rintro e w1 ⟨rfl, hb1⟩
  have hl1 := hA.step hb1
  go_wp2_with fail
  refine (poolNew_any most each idle w1).mono ?_
  rintro e w2 ⟨pb, rfl, hp2, hb2⟩
  have hl2 := hl1.step hb2
  go_wp2_with fail
  refine (new23_any most each idle w2).mono ?_
  rintro e w3 ⟨rfl, hb3⟩
  have hl3 := hl2.step hb3
  have hp3 := hp2.step hb3
  unfold poolV
  generalize upL most = M at *
  generalize upL each = E at *
  generalize upL idle = I at *
  have hal := alloc_below w3 (.cells (pCells M E I none 0 0) 76)
  have hro := heap_alloc_new w3 (.cells (pCells M E I none 0 0) 76)
  have hl4 := hl3.step hal
  have hbX := bnext hb2 (bnext hb3 hal hb3.size) hb2.size
  have hM : PM w1 (w3.alloc (.cells (pCells M E I none 0 0) 76)) w1.heap.size pb w3.heap.size M E I [] [] none 0 0 :=
    ⟨hp3.step hal, hro, OwnT.nil _ _ _, hbX, Nat.le_refl _, Nat.le_trans hb2.size hb3.size⟩
  clear hal hro hl1 hl2 hl3 hp2 hp3 hb2 hb3 hbX
  go_wp2_with fail
  generalize w3.alloc (.cells (pCells M E I none 0 0) 76) = w4 at *
  generalize w3.heap.size = rb at *
  refine (cutP_any A n c l w4 hl4 hnc hcm).mono ?_
  rintro e w5 ⟨m, rfl, hm3, hmc, hl5, rfl⟩
  have hsc := cut_back hA hl5
  generalize l.take 300 = sc at *
  have hlen := hsc.1
  clear hA hl4 hl5
  go_wp2
  go_loopg [11] m (fun r t wr => ∃ (k : Nat) (A5 : Option Addr) (n5 c5 : Nat), k ≤ m ∧ r + k = m ∧ t = .int .i64 k ∧ PM w1 wr w1.heap.size pb rb M E I (bndP M E I (sc.take k)) (bndP M E I (sc.take k)) A5 n5 c5)
  case atStart => exact ⟨0, none, 0, 0, by omega, by omega, rfl, hM⟩
  case round =>
    clear hM
    obtain ⟨k, A5, n5, c5, hk, hr, rfl, hM⟩ := hrel
    obtain ⟨wo, rfl⟩ : ∃ wo, wo = wr := ⟨_, rfl⟩
    have hbw := bnext hb1 hM.below hb1.size
    have hsr := hsc.step hbw
    by_cases hlt : k < m
    · obtain ⟨g, o, x, rfl, hg, HX, c0, c1, c2, c3⟩ := hsr.at_ hlt
      have k0 : (0 : Int) ≤ (k : Int) := by omega
      have k1 : (k : Int) < (m : Int) := by omega
      have hko := bndP_ok M E I sc k
      have HS := Lib.hid (bndP_snoc (m := M) (e := E) (i := I) HX.out)
      generalize bndP M E I (sc.take k) = xs at *
      have HY := Lib.hid (stepP_ok (m := M) (e := E) (i := I) x hko.1)
      have HSB : Hid (stepP M E I xs x = if x.w = 1 then (putL M E x.k x.a x.b xs).1 else if x.w = 2 then takeR (lastL (takeB I x.b x.k) xs) xs else if x.w = 3 then xs.filter (fun y => !oldX I x.b y) else if x.w = 4 then dropL x.a xs else xs) := Lib.hid rfl
      generalize stepP M E I xs x = ys at *
      have hal := alloc_below wo (.cells #[.int .i64 x.w, .string (bs x.k), .int .i64 x.a, .int .i64 x.b] 71)
      have hrow := heap_alloc_new wo (.cells #[.int .i64 x.w, .string (bs x.k), .int .i64 x.a, .int .i64 x.b] 71)
      have hMx := hM.step hal
      clear hal hM hbw hsr
      go_upto_region 10 with fail
      generalize wo.alloc (.cells #[.int .i64 x.w, .string (bs x.k), .int .i64 x.a, .int .i64 x.b] 71) = wx at *
      generalize wo.heap.size = ob at *
      have hn5 : xs.length = n5 := hMx.own.rd.1
      have hn5b : n5 ≤ 900000 := by omega
      have HN5 := Lib.hid hn5
      have HMX := Lib.hid hMx
      have HROW := Lib.hid hrow
      have HKO := Lib.hid hko
      clear hMx hrow hn5 c0 c1 c2 c3 hko
      obtain ⟨⟨b0, b1, b2, b3⟩, f0, f1, f2, f3⟩ := HMX.out.cells
      obtain ⟨⟨o0, o1, o2, o3⟩, -⟩ := row_facts4p HROW.out
      go_upto_block 2 with fail
      go_cut [11] (fun v wc => v = .int .i64 k ∧ ∃ (A7 : Option Addr) (n7 c7 : Nat), PM w1 wc w1.heap.size pb rb M E I ys ys A7 n7 c7)
      case first =>
        by_cases hw1 : x.w = 1
        · have hwb : (x.w == 1) = true := by simp [hw1]
          rw [if_pos hw1] at HSB
          have hQ := put23_any M E I A5 n5 c5 xs x.k x.a x.b wx HMX.out.own.rd hn5b HKO.out.1 hm0 he0
          have HPL := Lib.hid (putL_len M E x.k x.a x.b xs).2
          rw [← HSB.out] at hQ
          unfold poolV at hQ
          clear hw1
          go_wp2_with fail
          refine hQ.mono ?_
          rintro e' w6 ⟨A6, n6, c6, G, gn, gc, rfl, ho6, hg6, hb6⟩
          have hM6 := HMX.out.step hb6
          have hrow6 := row_keep HROW.out hb6
          have hal := alloc_below w6 (.cells (pCells M E I A6 n6 c6) 76)
          have hr7 := heap_alloc_new w6 (.cells (pCells M E I A6 n6 c6) 76)
          have hM7 := hM6.step hal
          have hrow7 := row_keep hrow6 hal
          have ho7 := (ho6.step hal).mono (show rb + 1 ≤ _ from HMX.out.lt)
          have hg7 := (hg6.step hal).mono (show rb + 1 ≤ _ from HMX.out.lt)
          clear hQ hb6 hM6 hrow6 hal ho6 hg6
          go_upto_region 13 with fail
          generalize w6.alloc (.cells (pCells M E I A6 n6 c6) 76) = w7 at *
          generalize w6.heap.size = nb at *
          clear b0 b1 b2 b3 f0 f1 f2 f3 o0 o1 o2 o3
          obtain ⟨⟨b0, b1, b2, b3⟩, f0, f1, f2, f3⟩ := hM7.cells
          obtain ⟨⟨d0, d1, d2, d3⟩, -⟩ := row_facts4p hr7
          have hM8 := hM7.store ho7
          have hobr : ob ≠ rb := by
            rintro rfl
            have h1 := hM7.box
            rw [hrow7] at h1
            injection h1 with h1; injection h1 with _ h1
            exact absurd h1 (by decide)
          have hrow8 := set4_other hrow7 (g := rb) (Ne.symm hobr) (.int .i64 M) (.int .i64 E) (.int .i64 I) (.slice A6 n6 c6)
          have hg8 : OwnI ((((w7.setCell ⟨rb, 0, none⟩ (.int .i64 M)).setCell ⟨rb, 1, none⟩ (.int .i64 E)).setCell ⟨rb, 2, none⟩ (.int .i64 I)).setCell ⟨rb, 3, none⟩ (.slice A6 n6 c6)) (rb + 1) (.slice G gn gc) (putL M E x.k x.a x.b xs).2 := own_setCellT (own_setCellT (own_setCellT (own_setCellT hg7 (by simp) _) (by simp) _) (by simp) _) (by simp) _
          clear hM7 hrow7 ho7 hg7 hr7
          go_upto_region 14 with fail
          generalize ((((w7.setCell ⟨rb, 0, none⟩ (.int .i64 M)).setCell ⟨rb, 1, none⟩ (.int .i64 E)).setCell ⟨rb, 2, none⟩ (.int .i64 I)).setCell ⟨rb, 3, none⟩ (.slice A6 n6 c6)) = w8 at *
          clear b0 b1 b2 b3 f0 f1 f2 f3 d0 d1 d2 d3
          obtain ⟨⟨o0, o1, o2, o3⟩, -⟩ := row_facts4p hrow8
          have hP := put_any w1.heap.size pb M E I xs x.k x.a x.b w8 hM8.pool HKO.out.1 (by have := HKO.out.2; omega) hm0 he0
          rw [← HSB.out] at hP
          clear hrow8
          go_wp2_with fail
          refine hP.mono ?_
          rintro e' w9 ⟨A9, n9, c9, rfl, ho9, hp9, ht9⟩
          have hM9 := hM8.turn hp9 ht9
          have hg9 : OwnI w9 (rb + 1) (.slice G gn gc) (putL M E x.k x.a x.b xs).2 := OwnI.turnP hg8 ht9
          have hS := same_ids (c := c9) (d := gc) ho9.rd hg9.rd (by have := HPL.out; omega)
          have HM9 := Lib.hid hM9
          clear hP hp9 ht9 hM9 hg9 ho9 hM8 hg8
          go_wp2_with fail
          refine hS.mono ?_
          rintro e' wA ⟨rfl, hbA⟩
          go_wp2
          go_meet
          case rel => exact ⟨rfl, A6, n6, c6, HM9.out.step hbA⟩
        · have hwb : (x.w == 1) = false := by simp [hw1]
          rw [if_neg hw1] at HSB
          by_cases hw2 : x.w = 2
          · have hwb2 : (x.w == 2) = true := by simp [hw2]
            rw [if_pos hw2] at HSB
            have hQ := take23_any M E I A5 n5 c5 xs x.k x.b (rb + 1) wx HMX.out.own (by omega) HMX.out.lt
            have hP := fun w8 h => take_any w1.heap.size pb M E I xs x.k x.b w8 h HKO.out.1 (by have := HKO.out.2; omega)
            rw [← HSB.out] at hQ
            rw [← HSB.out] at hP
            have hiv : ∃ (iv : Int) (bv : Bool), (∀ p, takeW p (lastL (takeB I x.b x.k) xs) = .tuple #[p, .int .i64 iv, .bool bv]) ∧ takeV (lastL (takeB I x.b x.k) xs) = .tuple #[.int .i64 iv, .bool bv] := by
              cases lastL (takeB I x.b x.k) xs with
              | none => exact ⟨0, false, fun _ => rfl, rfl⟩
              | some y => exact ⟨y.id, true, fun _ => rfl, rfl⟩
            obtain ⟨iv, bv, hW, hV⟩ := hiv
            simp only [hW] at hQ
            simp only [hV] at hP
            have HP := Lib.hid hP
            have hivn : (iv != iv) = false := by simp
            have hbvn : (bv != bv) = false := by simp
            unfold poolV at hQ
            clear hw1 hw2 hW hV hP
            go_wp2_with fail
            refine hQ.mono ?_
            rintro e' w6 ⟨A6, n6, c6, rfl, ho6, hb6⟩
            have hM6 := HMX.out.step hb6
            have hrow6 := row_keep HROW.out hb6
            have hal := alloc_below w6 (.cells (pCells M E I A6 n6 c6) 76)
            have hr7 := heap_alloc_new w6 (.cells (pCells M E I A6 n6 c6) 76)
            have hM7 := hM6.step hal
            have hrow7 := row_keep hrow6 hal
            have ho7 := (ho6.step hal)
            clear hQ hb6 hM6 hrow6 hal ho6
            go_upto_region 18 with fail
            generalize w6.alloc (.cells (pCells M E I A6 n6 c6) 76) = w7 at *
            generalize w6.heap.size = nb at *
            clear b0 b1 b2 b3 f0 f1 f2 f3 o0 o1 o2 o3
            obtain ⟨⟨b0, b1, b2, b3⟩, f0, f1, f2, f3⟩ := hM7.cells
            obtain ⟨⟨d0, d1, d2, d3⟩, -⟩ := row_facts4p hr7
            have hM8 := hM7.store ho7
            have hobr : ob ≠ rb := by
              rintro rfl
              have h1 := hM7.box
              rw [hrow7] at h1
              injection h1 with h1; injection h1 with _ h1
              exact absurd h1 (by decide)
            have hrow8 := set4_other hrow7 (g := rb) (Ne.symm hobr) (.int .i64 M) (.int .i64 E) (.int .i64 I) (.slice A6 n6 c6)
            clear hM7 hrow7 ho7 hr7
            go_upto_region 19 with fail
            generalize ((((w7.setCell ⟨rb, 0, none⟩ (.int .i64 M)).setCell ⟨rb, 1, none⟩ (.int .i64 E)).setCell ⟨rb, 2, none⟩ (.int .i64 I)).setCell ⟨rb, 3, none⟩ (.slice A6 n6 c6)) = w8 at *
            clear b0 b1 b2 b3 f0 f1 f2 f3 d0 d1 d2 d3
            obtain ⟨⟨o0, o1, o2, o3⟩, -⟩ := row_facts4p hrow8
            clear hrow8
            go_wp2_with fail
            refine (HP.out w8 hM8.pool).mono ?_
            rintro e' w9 ⟨rfl, hp9, ht9⟩
            have HM9 := Lib.hid (hM8.turn hp9 ht9)
            clear hp9 ht9 hM8
            go_wp2
            go_meet
            case rel => exact ⟨rfl, A6, n6, c6, HM9.out⟩
          · rw [if_neg hw2] at HSB
            by_cases hw3 : x.w = 3
            · have hwb3 : (x.w == 3) = true := by simp [hw3]
              have hwb2 : (x.w == 2) = false := by simp [hw2]
              rw [if_pos hw3] at HSB
              have hQ := expire23_any M E I A5 n5 c5 xs x.b wx HMX.out.own.rd (by omega)
              rw [← HSB.out] at hQ
              unfold poolV at hQ
              clear hw1 hw2 hw3
              go_wp2_with fail
              refine hQ.mono ?_
              rintro e' w6 ⟨A6, n6, c6, G, gn, gc, rfl, ho6, hg6, hb6⟩
              have hM6 := HMX.out.step hb6
              have hrow6 := row_keep HROW.out hb6
              have hal := alloc_below w6 (.cells (pCells M E I A6 n6 c6) 76)
              have hr7 := heap_alloc_new w6 (.cells (pCells M E I A6 n6 c6) 76)
              have hM7 := hM6.step hal
              have hrow7 := row_keep hrow6 hal
              have ho7 := (ho6.step hal).mono (show rb + 1 ≤ _ from HMX.out.lt)
              have hg7 := (hg6.step hal).mono (show rb + 1 ≤ _ from HMX.out.lt)
              clear hg6
              clear hQ hb6 hM6 hrow6 hal ho6
              go_upto_region 24 with fail
              generalize w6.alloc (.cells (pCells M E I A6 n6 c6) 76) = w7 at *
              generalize w6.heap.size = nb at *
              clear b0 b1 b2 b3 f0 f1 f2 f3 o0 o1 o2 o3
              obtain ⟨⟨b0, b1, b2, b3⟩, f0, f1, f2, f3⟩ := hM7.cells
              obtain ⟨⟨d0, d1, d2, d3⟩, -⟩ := row_facts4p hr7
              have hM8 := hM7.store ho7
              have hobr : ob ≠ rb := by
                rintro rfl
                have h1 := hM7.box
                rw [hrow7] at h1
                injection h1 with h1; injection h1 with _ h1
                exact absurd h1 (by decide)
              have hrow8 := set4_other hrow7 (g := rb) (Ne.symm hobr) (.int .i64 M) (.int .i64 E) (.int .i64 I) (.slice A6 n6 c6)
              have hg8 : OwnI ((((w7.setCell ⟨rb, 0, none⟩ (.int .i64 M)).setCell ⟨rb, 1, none⟩ (.int .i64 E)).setCell ⟨rb, 2, none⟩ (.int .i64 I)).setCell ⟨rb, 3, none⟩ (.slice A6 n6 c6)) (rb + 1) (.slice G gn gc) ((xs.filter (oldX I x.b)).map (·.id)) := own_setCellT (own_setCellT (own_setCellT (own_setCellT hg7 (by simp) _) (by simp) _) (by simp) _) (by simp) _
              clear hg7
              clear hM7 hrow7 ho7 hr7
              go_upto_region 25 with fail
              generalize ((((w7.setCell ⟨rb, 0, none⟩ (.int .i64 M)).setCell ⟨rb, 1, none⟩ (.int .i64 E)).setCell ⟨rb, 2, none⟩ (.int .i64 I)).setCell ⟨rb, 3, none⟩ (.slice A6 n6 c6)) = w8 at *
              clear b0 b1 b2 b3 f0 f1 f2 f3 d0 d1 d2 d3
              obtain ⟨⟨o0, o1, o2, o3⟩, -⟩ := row_facts4p hrow8
              clear hrow8
              have hP := expire_any w1.heap.size pb M E I xs x.b w8 hM8.pool (by have := HKO.out.2; omega)
              rw [← HSB.out] at hP
              go_wp2_with fail
              refine hP.mono ?_
              rintro e' w9 ⟨A9, n9, c9, rfl, ho9, hp9, ht9⟩
              have hM9 := hM8.turn hp9 ht9
              have hg9 : OwnI w9 (rb + 1) (.slice G gn gc) ((xs.filter (oldX I x.b)).map (·.id)) := OwnI.turnP hg8 ht9
              have hS := same_ids (c := c9) (d := gc) ho9.rd hg9.rd (by have := HKO.out.2; have h2 := List.length_filter_le (oldX I x.b) xs; simp; omega)
              have HM9 := Lib.hid hM9
              clear hP hp9 ht9 hM9 hg9 ho9 hM8 hg8
              go_wp2_with fail
              refine hS.mono ?_
              rintro e' wA ⟨rfl, hbA⟩
              go_wp2
              go_meet
              case rel => exact ⟨rfl, A6, n6, c6, HM9.out.step hbA⟩
            · rw [if_neg hw3] at HSB
              by_cases hw4 : x.w = 4
              · have hwb4 : (x.w == 4) = true := by simp [hw4]
                have hwb3 : (x.w == 3) = false := by simp [hw4]
                have hwb2 : (x.w == 2) = false := by simp [hw4]
                rw [if_pos hw4] at HSB
                have hQ := drop23_any M E I A5 n5 c5 xs x.a wx HMX.out.own.rd (by omega)
                have hP := fun w8 h => drop_any w1.heap.size pb M E I xs x.a w8 h HKO.out.1 (by have := HKO.out.2; omega)
                rw [← HSB.out] at hQ
                rw [← HSB.out] at hP
                generalize (xs.any fun y => y.id == x.a) = bv at *
                have HP := Lib.hid hP
                have hbvn : (bv != bv) = false := by simp
                unfold poolV at hQ
                clear hw1 hw2 hw3 hw4 hP
                go_wp2_with fail
                refine hQ.mono ?_
                rintro e' w6 ⟨A6, n6, c6, rfl, ho6, hb6⟩
                have hM6 := HMX.out.step hb6
                have hrow6 := row_keep HROW.out hb6
                have hal := alloc_below w6 (.cells (pCells M E I A6 n6 c6) 76)
                have hr7 := heap_alloc_new w6 (.cells (pCells M E I A6 n6 c6) 76)
                have hM7 := hM6.step hal
                have hrow7 := row_keep hrow6 hal
                have ho7 := (ho6.step hal).mono (show rb + 1 ≤ _ from HMX.out.lt)
                clear hQ hb6 hM6 hrow6 hal ho6
                go_upto_region 29 with fail
                generalize w6.alloc (.cells (pCells M E I A6 n6 c6) 76) = w7 at *
                generalize w6.heap.size = nb at *
                clear b0 b1 b2 b3 f0 f1 f2 f3 o0 o1 o2 o3
                obtain ⟨⟨b0, b1, b2, b3⟩, f0, f1, f2, f3⟩ := hM7.cells
                obtain ⟨⟨d0, d1, d2, d3⟩, -⟩ := row_facts4p hr7
                have hM8 := hM7.store ho7
                have hobr : ob ≠ rb := by
                  rintro rfl
                  have h1 := hM7.box
                  rw [hrow7] at h1
                  injection h1 with h1; injection h1 with _ h1
                  exact absurd h1 (by decide)
                have hrow8 := set4_other hrow7 (g := rb) (Ne.symm hobr) (.int .i64 M) (.int .i64 E) (.int .i64 I) (.slice A6 n6 c6)
                clear hM7 hrow7 ho7 hr7
                go_upto_region 30 with fail
                generalize ((((w7.setCell ⟨rb, 0, none⟩ (.int .i64 M)).setCell ⟨rb, 1, none⟩ (.int .i64 E)).setCell ⟨rb, 2, none⟩ (.int .i64 I)).setCell ⟨rb, 3, none⟩ (.slice A6 n6 c6)) = w8 at *
                clear b0 b1 b2 b3 f0 f1 f2 f3 d0 d1 d2 d3
                obtain ⟨⟨o0, o1, o2, o3⟩, -⟩ := row_facts4p hrow8
                clear hrow8
                go_wp2_with fail
                refine (HP.out w8 hM8.pool).mono ?_
                rintro e' w9 ⟨rfl, hp9, ht9⟩
                have HM9 := Lib.hid (hM8.turn hp9 ht9)
                clear hp9 ht9 hM8
                go_wp2
                go_meet
                case rel => exact ⟨rfl, A6, n6, c6, HM9.out⟩
              · have hwb4 : (x.w == 4) = false := by simp [hw4]
                have hwb3 : (x.w == 3) = false := by simp [hw3]
                have hwb2 : (x.w == 2) = false := by simp [hw2]
                rw [if_neg hw4] at HSB
                have HMY : Hid (PM w1 wx w1.heap.size pb rb M E I ys ys A5 n5 c5) := Lib.hid (by rw [HSB.out]; exact HMX.out)
                clear hw1 hw2 hw3 hw4
                go_wp2
                go_meet
                case rel => exact ⟨rfl, A5, n5, c5, HMY.out⟩
      case rest =>
        obtain ⟨rfl, A7, n7, c7, hM7⟩ := hcut
        clear HMX HROW b0 b1 b2 b3 f0 f1 f2 f3 o0 o1 o2 o3
        obtain ⟨hiy, hyl⟩ := HY.out
        have hyl2 : ys.length ≤ 1000000 := by have := HKO.out.2; omega
        have hn7 : ys.length = n7 := hM7.own.rd.1
        have hn7' : n7 ≤ 1000000 := by omega
        have HMd := Lib.hid hM7.drew
        obtain ⟨⟨b0, b1, b2, b3⟩, f0, f1, f2, f3⟩ := hM7.cells
        clear hM7 hn7 hiy
        go_upto_region 32 with fail
        go_cut [141] (fun v wy => v = .bool false ∧ PM w1 wy w1.heap.size pb rb M E I ys ys A7 n7 c7)
        case first =>
          go_region_held3 (fun w' => w'.cell? ⟨rb, 0, none⟩ = some (.int .i64 M) ∧ w'.cell? ⟨rb, 1, none⟩ = some (.int .i64 E) ∧ w'.cell? ⟨rb, 2, none⟩ = some (.int .i64 I) ∧ w'.cell? ⟨rb, 3, none⟩ = some (.slice A7 n7 c7) ∧ PM w1 w' w1.heap.size pb rb M E I ys ys A7 n7 c7)
            ((first | exact pm5 HMd.out | exact pm5 hN9 | exact pm5 hN9b | exact pm5 hN10 | exact pm5 hN10b | exact pm5 hN11))
            ((first
              | (go_at_call 55; (with_reducible refine (ids_any w1.heap.size pb M E I ys wc.drew HMd.out.pool hyl2).mono ?_); rintro e w9 ⟨A9, n9, c9, rfl, ho9, hp9, hb9⟩; have hN9 := HMd.out.step hb9; have hr9 := ho9.rd)
              | (go_at_call 56; (with_reducible refine (ids23_q HMd.out hn7').mono ?_); rintro e w9b ⟨A9, n9, c9, rfl, ho9, hb9⟩; have hN9b := HMd.out.step hb9; have hr9 := ho9.rd)
              | (go_at_call 56; (with_reducible refine (ids23_q hN9 hn7').mono ?_); rintro e w10 ⟨A10, n10, c10, rfl, ho10, hb10⟩; have hN10 := hN9.step hb10; have hr10 := ho10.rd; have hr9x := hr9.step hb10)
              | (go_at_call 55; (with_reducible refine (ids_any w1.heap.size pb M E I ys w9b hN9b.pool hyl2).mono ?_); rintro e w10b ⟨A10, n10, c10, rfl, ho10, hp10, hb10⟩; have hN10b := hN9b.step hb10; have hr10 := ho10.rd; have hr9x := hr9.step hb10)
              | (go_at_call 49; have hS := same_ids (c := c9) (d := c10) hr9x hr10 (by simpa using hyl2); (with_reducible refine hS.mono ?_); rintro e w11 ⟨rfl, hb11⟩; have hN11 := hN10.step hb11)
              | (go_at_call 49; have hS := same_ids (c := c10) (d := c9) hr10 hr9x (by simpa using hyl2); (with_reducible refine hS.mono ?_); rintro e w11 ⟨rfl, hb11⟩; have hN11 := hN10b.step hb11)))
          all_goals
            go_wp2
            go_meet
            case rel => exact ⟨rfl, hN11⟩
        case rest =>
          obtain ⟨rfl, hM8⟩ := hcut
          go_wp2
          go_roundg (m - (k + 1))
          case measure => omega
          case rel => exact ⟨k + 1, A7, n7, c7, by omega, by omega, by go_num, by rw [HS.out]; exact hM8⟩
    · go_wp2
      go_ret
      exact ⟨rfl, hbw⟩

theorem own : ownKnob Try.prog.godebug = none := by kernel_rfl
theorem contract (H : Type) (enc : TypeId × Value → H) (W : World) (base : Nat) (args : Array Value) (ds gs : List (DataW H)) (before : List MemPlace)
    (hval : ∀ (j : Nat) t v, Try.f9.params[j]? = some t → args[j]? = some v → Value.okWide Try.prog W .any base t v)
    (hW : DataW.Whole enc Try.prog Try.f9.params.toList Rows.poolStepsSpec.vars false W args.toList ds gs before) (hsz : (DataW.weightsEach Try.prog (Try.f9.params.toList ++ Rows.poolStepsSpec.plain.varTypes Try.prog) (ds ++ gs)).all (· ≤ reachBytes) = true) :
    Calls Try.prog 9 args W fun e W' => ∃ v, e = .returned v ∧ Rows.poolStepsSpec.post enc Try.prog Try.f9 false true false false W args v W' := by
  have hW' := hW
  obtain ⟨p, q, hA0, hV, rfl, hfz, hnd⟩ := hW
  have hA : DataW.TrodAll enc Try.prog W 0 (fun _ => true) true Try.f9.params.toList args.toList ds p := hA0
  rw [Try.params9] at hA hval hsz
  obtain ⟨v0, vs0, d0, ds0, p0, q0, hargs, rfl, rfl, h0, r0⟩ := trodAll_cons hA
  obtain ⟨v1, vs1, d1, ds1, p1, q1, rfl, rfl, rfl, h1, r1⟩ := trodAll_cons r0
  obtain ⟨v2, vs2, d2, ds2, p2, q2, rfl, rfl, rfl, h2, r2⟩ := trodAll_cons r1
  obtain ⟨v3, vs3, d3, ds3, p3, q3, rfl, rfl, rfl, h3, r3⟩ := trodAll_cons r2
  obtain ⟨rfl, rfl, rfl⟩ := trodAll_nil r3
  obtain rfl : args = #[v0, v1, v2, v3] := by cases args; simp_all
  obtain ⟨rfl, rfl⟩ := trodVars_none hV
  obtain ⟨i0, rfl, hi0, hj0⟩ := opI (hval 0 3 v0 rfl rfl) h0
  obtain ⟨i1, rfl, hi1, hj1⟩ := opI (hval 1 3 v1 rfl rfl) h1
  obtain ⟨i2, rfl, hi2, hj2⟩ := opI (hval 2 3 v2 rfl rfl) h2
  obtain ⟨A3, n3, c3, l3, rfl, hr3, hc3, hd3⟩ := opOp23 (hval 3 64 v3 rfl rfl) h3
  clear hA0
  refine (walk W i0 hi0 hj0 i1 hi1 hj1 i2 hi2 hj2 A3 n3 c3 l3 hr3 hc3 hd3).mono fun e W' ⟨he, hg⟩ => ?_
  subst he
  exact ⟨_, rfl, post_of_below (pa := p0 ++ (p1 ++ (p2 ++ (p3 ++ ([]))))) (pv := []) hW' (fun _ _ _ => (trodAll_cons_mk (shut_bool Try.underlying4 _) trodAll_mk0)) (fun sp hsp => (trodAll_cons_mk (arg_stays laidOut (by kernel_rfl) (of_decide_eq_true (by kernel_rfl)) h0 hg (fun x hx => hW'.lt x (by simp [hx])) sp (fun x hx => hsp x (by simp [hx]))) (trodAll_cons_mk (arg_stays laidOut (by kernel_rfl) (of_decide_eq_true (by kernel_rfl)) h1 hg (fun x hx => hW'.lt x (by simp [hx])) sp (fun x hx => hsp x (by simp [hx]))) (trodAll_cons_mk (arg_stays laidOut (by kernel_rfl) (of_decide_eq_true (by kernel_rfl)) h2 hg (fun x hx => hW'.lt x (by simp [hx])) sp (fun x hx => hsp x (by simp [hx]))) (trodAll_cons_mk (arg_stays laidOut (by kernel_rfl) (of_decide_eq_true (by kernel_rfl)) h3 hg (fun x hx => hW'.lt x (by simp [hx])) sp (fun x hx => hsp x (by simp [hx]))) trodAll_mk0))))) (fun _ _ => rfl) rfl
    hg (ok_one (by kernel_rfl) rfl (okWide_bool_mk Try.underlying4 _))⟩

set_option maxRecDepth 100000 in
theorem lifted (os : Os) (started : os.Started) (H : Type) (enc : TypeId × Value → H) :
    ReturnsInHanded {} Try.checked os 9 .any (Rows.poolStepsSpec.pre6 enc Try.prog Try.f9 Rows.poolStepsRow.domain false) (Rows.poolStepsSpec.post enc Try.prog Try.f9 false true false false) := by
  refine returnsInHanded_of_change_sized (C := Try.checked) own started (by kernel_rfl) Try.func9
    (ChangeSpec.witness6 (enc := enc) (C := Try.checked) false ⟨#[], #[.int .i64 0, .int .i64 0, .int .i64 0, .slice none 0 0], []⟩ 8 (by kernel_rfl) (by kernel_rfl) (by kernel_rfl) (by kernel_rfl)) ?_
  intro W base args ds gs before hval hW _ hsz _
  exact contract H enc W base args ds gs before hval hW hsz

theorem over : Rows.poolStepsRow.holds Try.pinned (OpenSpec.ofChange Rows.poolStepsSpec) :=
  OpenClaim.holds_of_wide 9 Try.f9 rfl rfl rfl rfl rfl rfl rfl ⟨rfl, rfl, rfl, rfl, rfl⟩ rfl rfl rfl rfl rfl (by kernel_rfl) Try.func9 (by kernel_rfl)
    (of_decide_eq_true (by kernel_rfl)) (by unfold Func.isWrapper; first | (rw [if_pos (by decide +kernel)]; kernel_rfl) | (rw [if_neg (by decide +kernel)]; exact ⟨rfl, rfl⟩))
    (fun os started H enc _ => lifted os started H enc)

theorem proved : Rows.PoolStepsSaid :=
  over
end Go.Proofs.Ytepedjnmliclkaa.poolSteps
