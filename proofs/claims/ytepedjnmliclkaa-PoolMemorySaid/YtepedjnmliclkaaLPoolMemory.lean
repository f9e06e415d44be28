/- PoolMemory: for every input the law answers true and leaves its arguments as they were. No conditions. -/
import Derived.Test.YtepedjnmliclkaaRows
import Derived.Test.YtepedjnmliclkaaPoolMem
import Derived.StillTailTactics
import Derived.Deep.LoopGhost
import Derived.Deep.RegionHeld3
import Derived.Deep.Cut
import Derived.Deep.DeepCutAuto
import Derived.Deep.CutBlock
import Derived.Test.YtepedjnmliclkaaOpenO
import Derived.WalkKit
import Derived.ProofKit
import Derived.OpenShut
import Derived.JoinedCond
set_option linter.unusedVariables false
set_option linter.unusedSimpArgs false
set_option maxRecDepth 100000
namespace Go.Proofs.Ytepedjnmliclkaa.poolMemory
open Go.ChangeShapes Go.WideShapes Go.ChangeAt Go.RowKit

theorem pm5 {w0 w : World} {B pb rb : Nat} {m e i : Int} {xs zs : List Cn} {A : Option Addr} {n c : Nat} (h : PM w0 w B pb rb m e i xs zs A n c) : w.cell? ⟨rb, 0, none⟩ = some (.int .i64 m) ∧ w.cell? ⟨rb, 1, none⟩ = some (.int .i64 e) ∧ w.cell? ⟨rb, 2, none⟩ = some (.int .i64 i) ∧ w.cell? ⟨rb, 3, none⟩ = some (.slice A n c) ∧ PM w0 w B pb rb m e i xs zs A n c := ⟨h.cells.1.1, h.cells.1.2.1, h.cells.1.2.2.1, h.cells.1.2.2.2, h⟩
theorem same_ids {w : World} {A B : Option Addr} {n m c d : Nat} {l : List Int} (hl : RdI w A n l) (hr : RdI w B m l) (h : l.length ≤ 1000000) : Calls Try.prog 49 #[.slice A n c, .slice B m d] w fun e w' => e = .returned (.bool true) ∧ Below w.heap.size w w' := by
  have h1 := hl.1
  have h2 := hr.1
  have := sameInts_any A B n m c d _ _ w hl hr (by omega) (by omega)
  rwa [beq_self_eq_true] at this
theorem ids23_q {w0 w : World} {B pb rb : Nat} {m e i : Int} {xs zs : List Cn} {A : Option Addr} {n c : Nat} (h : PM w0 w B pb rb m e i xs zs A n c) (hn : n ≤ 1000000) :
    Calls Try.prog 56 #[.agg #[.int .i64 m, .int .i64 e, .int .i64 i, .slice A n c]] w fun x w' => ∃ A' n' c', x = .returned (.slice A' n' c') ∧ OwnI w' w.heap.size (.slice A' n' c') (zs.map (·.id)) ∧ Below w.heap.size w w' := ids23_any m e i A n c zs w h.own.rd hn
theorem put23_q {w0 w : World} {B pb rb : Nat} {m e i : Int} {xs zs : List Cn} {A : Option Addr} {n c : Nat} (h : PM w0 w B pb rb m e i xs zs A n c) (hn : n ≤ 900000) (hi : IdsOK zs) (hm : 0 ≤ m) (he : 0 ≤ e) {o : List UInt8} {id now : Int} :
    Calls Try.prog 48 #[.agg #[.int .i64 m, .int .i64 e, .int .i64 i, .slice A n c], .string (bs o), .int .i64 id, .int .i64 now] w fun x w' => ∃ A' n' c' G gn gc, x = .returned (.tuple #[.agg #[.int .i64 m, .int .i64 e, .int .i64 i, .slice A' n' c'], .slice G gn gc]) ∧ OwnT 128 w' w.heap.size (.slice A' n' c') (putL m e o id now zs).1 ∧ OwnI w' w.heap.size (.slice G gn gc) (putL m e o id now zs).2 ∧ Below w.heap.size w w' := put23_any m e i A n c zs o id now w h.own.rd hn hi hm he
set_option maxRecDepth 100000 in
set_option maxHeartbeats 4000000 in
theorem walk (w : World) (most : Int) (hm1 : -9223372036854775808 ≤ most) (hm2 : most ≤ 9223372036854775807) (each : Int) (he1 : -9223372036854775808 ≤ each) (he2 : each ≤ 9223372036854775807)
    (A : Option Addr) (n c : Nat) (l : List Op4) (hA : RdO w A n l) (hnc : n ≤ c) (hcm : c ≤ 9223372036854775807) :
    Calls Try.prog 12 #[.int .i64 most, .int .i64 each, .slice A n c] w fun e w' => e = .returned (.bool true) ∧ Below w.heap.size w w' := by
  have hm0 : 0 ≤ upL most := by unfold upL; split <;> omega
  have he0 : 0 ≤ upL each := by unfold upL; split <;> omega
  go_enter Try.func12, Try.ntmps12
  go_wp2_with fail
  refine (alive_any w).mono ?_
  rintro e w1 ⟨rfl, hb1⟩
  have hl1 := hA.step hb1
  go_wp2_with fail
  refine (poolNew_any most each 10 w1).mono ?_
  rintro e w2 ⟨pb, rfl, hp2, hb2⟩
  have hl2 := hl1.step hb2
  go_wp2_with fail
  refine (new23_any most each 10 w2).mono ?_
  rintro e w3 ⟨rfl, hb3⟩
  have hl3 := hl2.step hb3
  have hp3 := hp2.step hb3
  unfold poolV
  generalize upL most = M at *
  generalize upL each = E at *
  generalize upL 10 = I at *
  have hal := alloc_below w3 (.cells (pCells M E I none 0 0) 76)
  have hro := heap_alloc_new w3 (.cells (pCells M E I none 0 0) 76)
  have hl4 := hl3.step hal
  have hbX := bnext hb2 (bnext hb3 hal hb3.size) hb2.size
  have hM : PM w1 (w3.alloc (.cells (pCells M E I none 0 0) 76)) w1.heap.size pb w3.heap.size M E I [] [] none 0 0 :=
    ⟨hp3.step hal, hro, OwnT.nil _ _ _, hbX, Nat.le_refl _, Nat.le_trans hb2.size hb3.size⟩
  clear hal hro hl1 hl2 hl3 hp2 hp3 hb2 hb3 hbX
  go_wp2_with fail
  generalize w3.alloc (.cells (pCells M E I none 0 0) 76) = w4 at *
  generalize w3.heap.size = rb at *
  refine (cutP_any A n c l w4 hl4 hnc hcm).mono ?_
  rintro e w5 ⟨m, rfl, hm3, hmc, hl5, rfl⟩
  have hsc := cut_back hA hl5
  generalize l.take 300 = sc at *
  have hlen := hsc.1
  clear hA hl4 hl5
  go_wp2
  go_loopg [9] m (fun r t wr => ∃ (k : Nat) (A5 : Option Addr) (n5 c5 : Nat), k ≤ m ∧ r + k = m ∧ t = .int .i64 k ∧ PM w1 wr w1.heap.size pb rb M E I (putsL M E (sc.take k)) (putsL M E (sc.take k)) A5 n5 c5)
  case atStart => exact ⟨0, none, 0, 0, by omega, by omega, rfl, hM⟩
  case round =>
    clear hM
    obtain ⟨k, A5, n5, c5, hk, hr, rfl, hM⟩ := hrel
    obtain ⟨wo, rfl⟩ : ∃ wo, wo = wr := ⟨_, rfl⟩
    have hbw := bnext hb1 hM.below hb1.size
    have hsr := hsc.step hbw
    by_cases hlt : k < m
    · obtain ⟨g, o, x, rfl, hg, HX, c0, c1, c2, c3⟩ := hsr.at_ hlt
      have k0 : (0 : Int) ≤ (k : Int) := by omega
      have k1 : (k : Int) < (m : Int) := by omega
      have hko := putsL_ok M E sc k
      have HS := Lib.hid (putsL_snoc (m := M) (e := E) HX.out)
      generalize putsL M E (sc.take k) = xs at *
      have HKO := Lib.hid hko
      have HPL := Lib.hid (putL_len M E x.k x.a x.b xs)
      have hP := put_any w1.heap.size pb M E I xs x.k x.a x.b wo.drew hM.drew.pool hko.1 (by omega) hm0 he0
      have hn5 : xs.length = n5 := hM.own.rd.1
      have hn5b : n5 ≤ 900000 := by omega
      have HM := Lib.hid hM
      clear hM hko hn5 hsr
      go_wp2
      go_still_tail 16, (by kernel_rfl)
      change wpList _ _ _ _ _ wo.drew
      go_wp2_with fail
      refine hP.mono ?_
      rintro e' w6 ⟨A6, n6, c6, rfl, ho6, hp6, ht6⟩
      have hM6 := HM.out.drew.turn hp6 ht6
      have hg6 : MI w6 w1.heap.size A6 n6 := (MI.of ho6).mono HM.out.drew.below.size
      have hn6 : n6 ≤ 2 := by have := ho6.rd.1; have := HPL.out.2; omega
      have HQ := Lib.hid fun W h => put23_any M E I A5 n5 c5 xs x.k x.a x.b W h hn5b HKO.out.1 hm0 he0
      have hs6 := hsc.step (bnext hb1 hM6.below hb1.size)
      clear hP hp6 ht6 ho6 HM hbw c0 c1 c2 c3
      have HSR : Hid (∀ W, Below w1.heap.size w1 W → ∃ q l, RdO W (some ⟨g, o, none⟩) q l ∧ k < q ∧ l[k]? = some x) := Lib.hid fun W hW => ⟨_, _, hsc.step (bnext hb1 hW hb1.size), hlt, HX.out⟩
      have hs6' : ∃ q l, RdO w6 (some ⟨g, o, none⟩) q l ∧ k < q ∧ l[k]? = some x := ⟨_, _, hs6, hlt, HX.out⟩
      have HS6 := Lib.hid hs6'
      have HM6 := Lib.hid hM6
      have HG6 := Lib.hid hg6
      obtain ⟨b0, b1, b2, b3, o1, o2, o3⟩ := pm8 hM6 hs6'
      clear hM6 hg6 hs6 hs6'
      go_upto_region 10 with fail
      go_cut [11] (fun v wc => ∃ (nb : Nat) (A7 : Option Addr) (n7 c7 : Nat), v = .pointer (some ⟨nb, 0, none⟩) ∧ wc.heap[nb]? = some (.cells (pCells M E I A7 n7 c7) 76 (0, 0)) ∧ OwnT 128 wc (rb + 1) (.slice A7 n7 c7) (putL M E x.k x.a x.b xs).1 ∧ PM w1 wc w1.heap.size pb rb M E I (putL M E x.k x.a x.b xs).1 xs A5 n5 c5 ∧ MI wc w1.heap.size A6 n6)
      case first =>
        have hMd := HM6.out.drew
        have hra := heap_alloc_new w6 (.cells (pCells 0 0 0 none 0 0) 76)
        have hMa := (HM6.out.step (alloc_below w6 (.cells (pCells 0 0 0 none 0 0) 76))).drew
        have hga : MI (w6.alloc (.cells (pCells 0 0 0 none 0 0) 76)).drew w1.heap.size A6 n6 := (HG6.out.step (alloc_below _ _)).step (Below.refl _ _).drew
        have hgd : MI w6.drew w1.heap.size A6 n6 := HG6.out.step (Below.refl _ _).drew
        have hnb : w6.heap.size ≠ rb := by have := HM6.out.lt; omega
        have hBb : w1.heap.size ≤ w6.heap.size := HM6.out.below.size
        have hrb1 : rb + 1 ≤ w6.heap.size := HM6.out.lt
        have HI := Lib.hid HKO.out.1
        clear HQ
        go_region_held3 (fun w' => w'.cell? ⟨rb, 0, none⟩ = some (.int .i64 M) ∧ w'.cell? ⟨rb, 1, none⟩ = some (.int .i64 E) ∧ w'.cell? ⟨rb, 2, none⟩ = some (.int .i64 I) ∧ w'.cell? ⟨rb, 3, none⟩ = some (.slice A5 n5 c5) ∧ w'.cell? ⟨g, o + k * 4 + 1, none⟩ = some (.string (bs x.k)) ∧ w'.cell? ⟨g, o + k * 4 + 2, none⟩ = some (.int .i64 x.a) ∧ w'.cell? ⟨g, o + k * 4 + 3, none⟩ = some (.int .i64 x.b))
          ((first | exact pm8 hMd (HSR.out _ hMd.below) | exact pm8 hMa (HSR.out _ hMa.below) | exact pm8 hN8 (HSR.out _ hN8.below) | exact pm8 (hN8.step (alloc_below _ _)) (HSR.out _ (hN8.step (alloc_below _ _)).below) | exact pm8 hN8b (HSR.out _ hN8b.below) | exact pm8 hN8c (HSR.out _ hN8c.below)))
          ((first
            | (go_at_call 48; (with_reducible refine (put23_q hMd hn5b HI.out hm0 he0).mono ?_); rintro e' w8 ⟨A8, n8, c8, G, gn, gc, rfl, ho8, hg8, hb8⟩; have hN8 := hMd.step hb8)
            | (go_at_call 48; (with_reducible refine (put23_q hMa hn5b HI.out hm0 he0).mono ?_); rintro e' w8b ⟨A8, n8, c8, G, gn, gc, rfl, ho8, hg8, hb8⟩; have hN8b := hMa.step hb8; have hrw : w8b.heap[w6.heap.size]? = some (.cells (pCells 0 0 0 none 0 0) 76 (0, 0)) := row_keep (w := (w6.alloc (.cells (pCells 0 0 0 none 0 0) 76)).drew) hra hb8; have hN8c := hN8b.other4 hrw hnb hBb (.int .i64 M) (.int .i64 E) (.int .i64 I) (.slice A8 n8 c8); obtain ⟨⟨d0, d1, d2, d3⟩, f0, f1, f2, f3⟩ := row_facts4p hrw)))
        all_goals
          go_wp2_with fail
          go_meet
          case rel =>
            first
              | exact ⟨_, A8, n8, c8, rfl, heap_alloc_new w8 _, (ho8.step (alloc_below _ _)).mono (by simpa using hrb1), hN8.step (alloc_below _ _), (hgd.step hb8).step (alloc_below _ _)⟩
              | exact ⟨_, A8, n8, c8, rfl, set4_at hrw _ _ _ _, ((((ho8.setCell (by simp) _).setCell (by simp) _).setCell (by simp) _).setCell (by simp) _).mono (by simp; omega), hN8c, (hga.step hb8).set4 _ _ _ _ _⟩
      case rest =>
        obtain ⟨nb, A7, n7, c7, rfl, hr7, ho7, hM7, hg7⟩ := hcut
        clear HS6 HM6 HG6 HQ b0 b1 b2 b3 o1 o2 o3
        obtain ⟨⟨b0, b1, b2, b3⟩, f0, f1, f2, f3⟩ := hM7.cells
        obtain ⟨⟨d0, d1, d2, d3⟩, -⟩ := row_facts4p hr7
        have hM8 := hM7.store ho7
        have hg8 := hg7.set4 rb (.int .i64 M) (.int .i64 E) (.int .i64 I) (.slice A7 n7 c7)
        clear hM7 hr7 ho7 hg7
        go_upto_region 12 with fail
        generalize ((((wc.setCell ⟨rb, 0, none⟩ (.int .i64 M)).setCell ⟨rb, 1, none⟩ (.int .i64 E)).setCell ⟨rb, 2, none⟩ (.int .i64 I)).setCell ⟨rb, 3, none⟩ (.slice A7 n7 c7)) = wA at *
        clear b0 b1 b2 b3 f0 f1 f2 f3 d0 d1 d2 d3
        have hyl : (putL M E x.k x.a x.b xs).1.length ≤ 1000000 := by have := HPL.out.1; have := HKO.out.2; omega
        generalize (putL M E x.k x.a x.b xs).1 = ys at *
        go_wp2_with fail
        refine (ids_any w1.heap.size pb M E I ys wA hM8.pool hyl).mono ?_
        rintro e' wB ⟨AB, nB, cB, rfl, hoB, hpB, hbB⟩
        have hMB := hM8.step hbB
        have hgB := hg8.step hbB
        have hkB := (MI.of hoB).mono hM8.below.size
        have hnB : nB ≤ 1000000 := by have := hoB.rd.1; simp at this; omega
        clear hM8 hg8 hoB hpB hbB
        go_wp2
        go_loopg [14] n6 (fun r t wr => ∃ j : Nat, j ≤ n6 ∧ r + j = n6 ∧ t = .int .i64 j ∧ PM w1 wr w1.heap.size pb rb M E I ys ys A7 n7 c7 ∧ MI wr w1.heap.size A6 n6 ∧ MI wr w1.heap.size AB nB)
        case atStart => exact ⟨0, by omega, by omega, rfl, hMB, hgB, hkB⟩
        case round =>
          clear hMB hgB hkB
          obtain ⟨j, hj, hrj, rfl, hMj, hgj, hkj⟩ := hrel
          obtain ⟨wj, rfl⟩ : ∃ wj, wj = wr := ⟨_, rfl⟩
          by_cases hltj : j < n6
          · obtain ⟨g2, cur, rfl, hg2, hrow2, hcur⟩ : ∃ (g : Nat) (cur : Array Value), A6 = some ⟨g, 0, none⟩ ∧ w1.heap.size ≤ g ∧ wj.heap[g]? = some (.cells cur 3 (0, 0)) ∧ n6 ≤ cur.size := by
              rcases hgj with h | h
              · omega
              · exact h
            obtain ⟨v, hv⟩ : ∃ v, wj.cell? ⟨g2, 0 + j, none⟩ = some v := by
              rw [cell_of_row _ _ _ _ _ _ hrow2]
              exact ⟨_, Array.getElem?_eq_getElem (by omega)⟩
            have hfz : wj.frozen? ⟨g2, 0 + j, none⟩ = false := by simp only [World.frozen?, hrow2]; simp
            have j0 : (0 : Int) ≤ (j : Int) := by omega
            have j1 : (j : Int) < (n6 : Int) := by omega
            rw [Nat.zero_add] at hv hfz
            have HMN := Lib.hid (hMj.mark hrow2 hg2 j (.int .i64 (-5)))
            have HGN := Lib.hid (MI.set hgj g2 j (.int .i64 (-5)))
            have HKN := Lib.hid (MI.set hkj g2 j (.int .i64 (-5)))
            clear hMj hgj hkj hrow2
            go_wp2
            go_roundg (n6 - (j + 1))
            case measure => omega
            case rel => exact ⟨j + 1, by omega, by omega, by go_num, HMN.out, HGN.out, HKN.out⟩
          · obtain rfl : j = n6 := by omega
            clear hgj
            go_wp2
            go_loopg [15] nB (fun r t wr => ∃ j : Nat, j ≤ nB ∧ r + j = nB ∧ t = .int .i64 j ∧ PM w1 wr w1.heap.size pb rb M E I ys ys A7 n7 c7 ∧ MI wr w1.heap.size AB nB)
            case atStart => exact ⟨0, by omega, by omega, rfl, hMj, hkj⟩
            case round =>
              clear hMj hkj
              obtain ⟨j, hj, hrj, rfl, hMj, hkj⟩ := hrel
              obtain ⟨wj, rfl⟩ : ∃ wj, wj = wr := ⟨_, rfl⟩
              by_cases hltj : j < nB
              · obtain ⟨g2, cur, rfl, hg2, hrow2, hcur⟩ : ∃ (g : Nat) (cur : Array Value), AB = some ⟨g, 0, none⟩ ∧ w1.heap.size ≤ g ∧ wj.heap[g]? = some (.cells cur 3 (0, 0)) ∧ nB ≤ cur.size := by
                  rcases hkj with h | h
                  · omega
                  · exact h
                obtain ⟨v, hv⟩ : ∃ v, wj.cell? ⟨g2, 0 + j, none⟩ = some v := by
                  rw [cell_of_row _ _ _ _ _ _ hrow2]
                  exact ⟨_, Array.getElem?_eq_getElem (by omega)⟩
                have hfz : wj.frozen? ⟨g2, 0 + j, none⟩ = false := by simp only [World.frozen?, hrow2]; simp
                have j0 : (0 : Int) ≤ (j : Int) := by omega
                have j1 : (j : Int) < (nB : Int) := by omega
                rw [Nat.zero_add] at hv hfz
                have HMN := Lib.hid (hMj.mark hrow2 hg2 j (.int .i64 (-5)))
                have HKN := Lib.hid (MI.set hkj g2 j (.int .i64 (-5)))
                clear hMj hkj hrow2
                go_wp2
                go_roundg (nB - (j + 1))
                case measure => omega
                case rel => exact ⟨j + 1, by omega, by omega, by go_num, HMN.out, HKN.out⟩
              · obtain rfl : j = nB := by omega
                go_wp2
                go_roundg (m - (k + 1))
                case measure => omega
                case rel => exact ⟨k + 1, A7, n7, c7, by omega, by omega, by go_num, by rw [HS.out]; exact hMj⟩
    · obtain rfl : k = m := by omega
      have hko := putsL_ok M E sc k
      generalize putsL M E (sc.take k) = ys at *
      have hyl2 : ys.length ≤ 1000000 := by omega
      have hn5 : ys.length = n5 := hM.own.rd.1
      have hn7' : n5 ≤ 1000000 := by omega
      have HMd := Lib.hid hM.drew
      obtain ⟨⟨b0, b1, b2, b3⟩, f0, f1, f2, f3⟩ := hM.cells
      clear hM hn5 hko hsr
      go_wp2
      go_region_held3 (fun w' => w'.cell? ⟨rb, 0, none⟩ = some (.int .i64 M) ∧ w'.cell? ⟨rb, 1, none⟩ = some (.int .i64 E) ∧ w'.cell? ⟨rb, 2, none⟩ = some (.int .i64 I) ∧ w'.cell? ⟨rb, 3, none⟩ = some (.slice A5 n5 c5) ∧ PM w1 w' w1.heap.size pb rb M E I ys ys A5 n5 c5)
        ((first | exact pm5 HMd.out | exact pm5 hN9 | exact pm5 hN9b | exact pm5 hN10 | exact pm5 hN10b | exact pm5 hN11))
        ((first
          | (go_at_call 55; (with_reducible refine (ids_any w1.heap.size pb M E I ys wo.drew HMd.out.pool hyl2).mono ?_); rintro e w9 ⟨A9, n9, c9, rfl, ho9, hp9, hb9⟩; have hN9 := HMd.out.step hb9; have hr9 := ho9.rd)
          | (go_at_call 56; (with_reducible refine (ids23_q HMd.out hn7').mono ?_); rintro e w9b ⟨A9, n9, c9, rfl, ho9, hb9⟩; have hN9b := HMd.out.step hb9; have hr9 := ho9.rd)
          | (go_at_call 56; (with_reducible refine (ids23_q hN9 hn7').mono ?_); rintro e w10 ⟨A10, n10, c10, rfl, ho10, hb10⟩; have hN10 := hN9.step hb10; have hr10 := ho10.rd; have hr9x := hr9.step hb10)
          | (go_at_call 55; (with_reducible refine (ids_any w1.heap.size pb M E I ys w9b hN9b.pool hyl2).mono ?_); rintro e w10b ⟨A10, n10, c10, rfl, ho10, hp10, hb10⟩; have hN10b := hN9b.step hb10; have hr10 := ho10.rd; have hr9x := hr9.step hb10)
          | (go_at_call 49; have hS := same_ids (c := c9) (d := c10) hr9x hr10 (by simpa using hyl2); (with_reducible refine hS.mono ?_); rintro e w11 ⟨rfl, hb11⟩; have hN11 := hN10.step hb11)
          | (go_at_call 49; have hS := same_ids (c := c10) (d := c9) hr10 hr9x (by simpa using hyl2); (with_reducible refine hS.mono ?_); rintro e w11 ⟨rfl, hb11⟩; have hN11 := hN10b.step hb11)))
      all_goals
        go_wp2
        go_ret
        exact ⟨rfl, bnext hb1 hN11.below hb1.size⟩

theorem own : ownKnob Try.prog.godebug = none := by kernel_rfl
theorem contract (H : Type) (enc : TypeId × Value → H) (W : World) (base : Nat) (args : Array Value) (ds gs : List (DataW H)) (before : List MemPlace)
    (hval : ∀ (j : Nat) t v, Try.f12.params[j]? = some t → args[j]? = some v → Value.okWide Try.prog W .any base t v)
    (hW : DataW.Whole enc Try.prog Try.f12.params.toList Rows.poolMemorySpec.vars false W args.toList ds gs before) (hsz : (DataW.weightsEach Try.prog (Try.f12.params.toList ++ Rows.poolMemorySpec.plain.varTypes Try.prog) (ds ++ gs)).all (· ≤ reachBytes) = true) :
    Calls Try.prog 12 args W fun e W' => ∃ v, e = .returned v ∧ Rows.poolMemorySpec.post enc Try.prog Try.f12 false true false false W args v W' := by
  have hW' := hW
  obtain ⟨p, q, hA0, hV, rfl, hfz, hnd⟩ := hW
  have hA : DataW.TrodAll enc Try.prog W 0 (fun _ => true) true Try.f12.params.toList args.toList ds p := hA0
  rw [Try.params12] at hA hval hsz
  obtain ⟨v0, vs0, d0, ds0, p0, q0, hargs, rfl, rfl, h0, r0⟩ := trodAll_cons hA
  obtain ⟨v1, vs1, d1, ds1, p1, q1, rfl, rfl, rfl, h1, r1⟩ := trodAll_cons r0
  obtain ⟨v2, vs2, d2, ds2, p2, q2, rfl, rfl, rfl, h2, r2⟩ := trodAll_cons r1
  obtain ⟨rfl, rfl, rfl⟩ := trodAll_nil r2
  obtain rfl : args = #[v0, v1, v2] := by cases args; simp_all
  obtain ⟨rfl, rfl⟩ := trodVars_none hV
  obtain ⟨i0, rfl, hi0, hj0⟩ := opI (hval 0 3 v0 rfl rfl) h0
  obtain ⟨i1, rfl, hi1, hj1⟩ := opI (hval 1 3 v1 rfl rfl) h1
  obtain ⟨A2, n2, c2, l2, rfl, hr2, hc2, hd2⟩ := opOp23 (hval 2 64 v2 rfl rfl) h2
  clear hA0
  refine (walk W i0 hi0 hj0 i1 hi1 hj1 A2 n2 c2 l2 hr2 hc2 hd2).mono fun e W' ⟨he, hg⟩ => ?_
  subst he
  exact ⟨_, rfl, post_of_below (pa := p0 ++ (p1 ++ (p2 ++ ([])))) (pv := []) hW' (fun _ _ _ => (trodAll_cons_mk (shut_bool Try.underlying4 _) trodAll_mk0)) (fun sp hsp => (trodAll_cons_mk (arg_stays laidOut (by kernel_rfl) (of_decide_eq_true (by kernel_rfl)) h0 hg (fun x hx => hW'.lt x (by simp [hx])) sp (fun x hx => hsp x (by simp [hx]))) (trodAll_cons_mk (arg_stays laidOut (by kernel_rfl) (of_decide_eq_true (by kernel_rfl)) h1 hg (fun x hx => hW'.lt x (by simp [hx])) sp (fun x hx => hsp x (by simp [hx]))) (trodAll_cons_mk (arg_stays laidOut (by kernel_rfl) (of_decide_eq_true (by kernel_rfl)) h2 hg (fun x hx => hW'.lt x (by simp [hx])) sp (fun x hx => hsp x (by simp [hx]))) trodAll_mk0)))) (fun _ _ => rfl) rfl
    hg (ok_one (by kernel_rfl) rfl (okWide_bool_mk Try.underlying4 _))⟩

set_option maxRecDepth 100000 in
theorem lifted (os : Os) (started : os.Started) (H : Type) (enc : TypeId × Value → H) :
    ReturnsInHanded {} Try.checked os 12 .any (Rows.poolMemorySpec.pre6 enc Try.prog Try.f12 Rows.poolMemoryRow.domain false) (Rows.poolMemorySpec.post enc Try.prog Try.f12 false true false false) := by
  refine returnsInHanded_of_change_sized (C := Try.checked) own started (by kernel_rfl) Try.func12
    (ChangeSpec.witness6 (enc := enc) (C := Try.checked) false ⟨#[], #[.int .i64 0, .int .i64 0, .slice none 0 0], []⟩ 8 (by kernel_rfl) (by kernel_rfl) (by kernel_rfl) (by kernel_rfl)) ?_
  intro W base args ds gs before hval hW _ hsz _
  exact contract H enc W base args ds gs before hval hW hsz

theorem over : Rows.poolMemoryRow.holds Try.pinned (OpenSpec.ofChange Rows.poolMemorySpec) :=
  OpenClaim.holds_of_wide 12 Try.f12 rfl rfl rfl rfl rfl rfl rfl ⟨rfl, rfl, rfl, rfl, rfl⟩ rfl rfl rfl rfl rfl (by kernel_rfl) Try.func12 (by kernel_rfl)
    (of_decide_eq_true (by kernel_rfl)) (by unfold Func.isWrapper; first | (rw [if_pos (by decide +kernel)]; kernel_rfl) | (rw [if_neg (by decide +kernel)]; exact ⟨rfl, rfl⟩))
    (fun os started H enc _ => lifted os started H enc)

theorem proved : Rows.PoolMemorySaid :=
  over
end Go.Proofs.Ytepedjnmliclkaa.poolMemory
