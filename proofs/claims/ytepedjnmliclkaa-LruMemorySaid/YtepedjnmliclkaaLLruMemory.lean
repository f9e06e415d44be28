/- LruMemory: for every input the law answers true and leaves its arguments as they were. No conditions. -/
import Derived.Test.YtepedjnmliclkaaRows
import Derived.Test.YtepedjnmliclkaaLruMem
import Derived.StillTailTactics
import Derived.Deep.LoopGhost
import Derived.Deep.RegionHeld3
import Derived.Deep.Cut
import Derived.Deep.DeepCutAuto
import Derived.Deep.CutBlock
import Derived.Test.YtepedjnmliclkaaOpenL
import Derived.WalkKit
import Derived.ProofKit
import Derived.OpenShut
import Derived.JoinedCond
set_option linter.unusedVariables false
set_option linter.unusedSimpArgs false
set_option maxRecDepth 100000
namespace Go.Proofs.Ytepedjnmliclkaa.lruMemory
open Go.ChangeShapes Go.WideShapes Go.ChangeAt Go.RowKit

def putsM (R : Int) (sc : List Op4) : List Cn := sc.foldl (fun xs o => (lputL R o.k o.a o.b xs).1) []
theorem putsM_snoc {R : Int} {sc : List Op4} {k : Nat} {x : Op4} (h : sc[k]? = some x) : putsM R (sc.take (k + 1)) = (lputL R x.k x.a x.b (putsM R (sc.take k))).1 := by
  unfold putsM
  rw [take_snoc? h, List.foldl_append]; rfl
theorem putsM_ok {R : Int} (h0 : 0 ≤ R) (h1 : R ≤ 1073741824) (sc : List Op4) (hk : ∀ x ∈ sc, x.k.length ≤ maxLen) (k : Nat) : ItemsOK R (putsM R (sc.take k)) ∧ (putsM R (sc.take k)).length ≤ k := by
  induction k with
  | zero => exact ⟨items_nil h0 h1, by simp [putsM]⟩
  | succ k ih =>
    by_cases hl : k < sc.length
    · rw [putsM_snoc (List.getElem?_eq_getElem hl)]
      have h2 := ih.1.put (s := sc[k].k) (v := sc[k].a) (size := sc[k].b) (hk sc[k] (List.getElem_mem hl))
      have h3 := (lputL_len R sc[k].k sc[k].a sc[k].b (putsM R (sc.take k))).1
      exact ⟨h2, by omega⟩
    · rw [List.take_of_length_le (by omega)] at ih ⊢
      exact ⟨ih.1, by omega⟩
theorem lm3 {w0 w : World} {B tb rb : Nat} {R : Int} {mb N : Nat} {xs zs : List Cn} {A : Option Addr} {n c : Nat} (h : LM w0 w B tb rb R mb N xs zs A n c) : w.cell? ⟨rb, 0, none⟩ = some (.int .i64 R) ∧ w.cell? ⟨rb, 1, none⟩ = some (.slice A n c) ∧ LM w0 w B tb rb R mb N xs zs A n c := ⟨h.cells.1, h.cells.2.1, h⟩
theorem same_keys {w : World} {A B : Option Addr} {n m c d : Nat} {ys : List Cn} (hl : RdS w A n (ys.map (·.o))) (hr : RdS w B m (ys.map (·.o))) (h : ys.length ≤ 1000000) : Calls Try.prog 20 #[.slice A n c, .slice B m d] w fun e w' => e = .returned (.bool true) ∧ Below w.heap.size w w' := by
  have h1 := hl.1
  have h2 := hr.1
  simp at h1 h2
  have := sameTexts_any A B n m c d _ _ w hl hr (by omega) (by omega)
  rwa [beq_self_eq_true] at this
theorem keys14_q {w0 w : World} {B tb rb : Nat} {R : Int} {mb N : Nat} {xs zs : List Cn} {A : Option Addr} {n c : Nat} (h : LM w0 w B tb rb R mb N xs zs A n c) (hn : n ≤ 1000000) :
    Calls Try.prog 29 #[.agg #[.int .i64 R, .slice A n c]] w fun e w' => ∃ A' n' c', e = .returned (.slice A' n' c') ∧ OwnS w' w.heap.size (.slice A' n' c') (zs.map (·.o)) ∧ Below w.heap.size w w' := keys14_any R A n c zs w h.own.rd hn
set_option maxRecDepth 100000 in
set_option maxHeartbeats 4000000 in
theorem walk (w : World) (room : Int) (hm1 : -9223372036854775808 ≤ room) (hm2 : room ≤ 9223372036854775807)
    (A : Option Addr) (n c : Nat) (l : List Op4) (hA : RdO w A n l) (hnc : n ≤ c) (hcm : c ≤ 9223372036854775807) (hkl : ∀ x ∈ l, x.k.length ≤ maxLen) :
    Calls Try.prog 7 #[.int .i64 room, .slice A n c] w fun e w' => e = .returned (.bool true) ∧ Below w.heap.size w w' := by
  have hR0 : 0 ≤ roomL room := by unfold roomL; split <;> (try split) <;> omega
  have hR1 : roomL room ≤ 1073741824 := by unfold roomL; split <;> (try split) <;> omega
  go_enter Try.func7, Try.ntmps7
  go_wp2_with fail
  refine (alive14_any w).mono ?_
  rintro e w1 ⟨rfl, hb1⟩
  have hl1 := hA.step hb1
  go_wp2_with fail
  refine (lruNew_any room w1).mono ?_
  rintro e w2 ⟨tb, mb, rfl, hp2, hb2⟩
  have hl2 := hl1.step hb2
  go_wp2_with fail
  refine (new14_any room w2).mono ?_
  rintro e w3 ⟨rfl, hb3⟩
  have hl3 := hl2.step hb3
  have hp3 := hp2.step hb3
  unfold tabV
  generalize roomL room = R at *
  have hal := alloc_below w3 (.cells #[.int .i64 R, .slice none 0 0] 28)
  have hro := heap_alloc_new w3 (.cells #[.int .i64 R, .slice none 0 0] 28)
  have hl4 := hl3.step hal
  have hbX := bnext hb2 (bnext hb3 hal hb3.size) hb2.size
  have hM : LM w1 (w3.alloc (.cells #[.int .i64 R, .slice none 0 0] 28)) w1.heap.size tb w3.heap.size R mb 0 [] [] none 0 0 :=
    ⟨hp3.step hal, hro, OwnT.nil _ _ _, hbX, Nat.le_refl _, Nat.le_trans hb2.size hb3.size⟩
  clear hal hro hl1 hl2 hl3 hp2 hp3 hb2 hb3 hbX
  go_wp2_with fail
  generalize w3.alloc (.cells #[.int .i64 R, .slice none 0 0] 28) = w4 at *
  generalize w3.heap.size = rb at *
  refine (cutL_any A n c l w4 hl4 hnc hcm).mono ?_
  rintro e w5 ⟨m, rfl, hm3, hmc, hl5, rfl⟩
  have hsc := cut_back hA hl5
  have HKL : Hid (∀ x ∈ l.take 300, x.k.length ≤ maxLen) := Lib.hid fun x hx => hkl x (List.mem_of_mem_take hx)
  generalize l.take 300 = sc at *
  have hlen := hsc.1
  clear hA hl4 hl5 hkl
  go_wp2
  go_loopg [7] m (fun r t wr => ∃ (k : Nat) (A5 : Option Addr) (n5 c5 : Nat), k ≤ m ∧ r + k = m ∧ t = .int .i64 k ∧ LM w1 wr w1.heap.size tb rb R mb k (putsM R (sc.take k)) (putsM R (sc.take k)) A5 n5 c5)
  case atStart => exact ⟨0, none, 0, 0, by omega, by omega, rfl, hM⟩
  case round =>
    clear hM
    obtain ⟨k, A5, n5, c5, hk, hr, rfl, hM⟩ := hrel
    obtain ⟨wo, rfl⟩ : ∃ wo, wo = wr := ⟨_, rfl⟩
    have hbw := bnext hb1 hM.below hb1.size
    have hsr := hsc.step hbw
    by_cases hlt : k < m
    · obtain ⟨g, o, x, rfl, hg, HX, c0, c1, c2, c3⟩ := hsr.at_ hlt
      have k0 : (0 : Int) ≤ (k : Int) := by omega
      have k1 : (k : Int) < (m : Int) := by omega
      have hko := putsM_ok hR0 hR1 sc HKL.out k
      have hxk := HKL.out x (mem_of_get? HX.out)
      have HS := Lib.hid (putsM_snoc (R := R) HX.out)
      generalize putsM R (sc.take k) = xs at *
      have HKO := Lib.hid hko
      have HYL := Lib.hid (lputL_len R x.k x.a x.b xs)
      have hal := alloc_below wo (.cells #[.int .i64 x.w, .string (bs x.k), .int .i64 x.a, .int .i64 x.b] 32)
      have hrow := heap_alloc_new wo (.cells #[.int .i64 x.w, .string (bs x.k), .int .i64 x.a, .int .i64 x.b] 32)
      have hMx := hM.step hal
      clear hal hM hbw hsr
      go_upto_region 10 with fail
      generalize wo.alloc (.cells #[.int .i64 x.w, .string (bs x.k), .int .i64 x.a, .int .i64 x.b] 32) = w6 at *
      generalize wo.heap.size = ob at *
      have hn5 : xs.length = n5 := hMx.own.rd.1
      have HN5 := Lib.hid hn5
      have HM6 := Lib.hid hMx
      have HROW6 := Lib.hid hrow
      clear hMx hn5 c0 c1 c2 c3
      have hO1 : w6.cell? ⟨ob, 1, none⟩ = some (.string (bs x.k)) := by rw [cell_of_row _ _ _ _ _ _ HROW6.out]; rfl
      have hO2 : w6.cell? ⟨ob, 2, none⟩ = some (.int .i64 x.a) := by rw [cell_of_row _ _ _ _ _ _ HROW6.out]; rfl
      have hO3 : w6.cell? ⟨ob, 3, none⟩ = some (.int .i64 x.b) := by rw [cell_of_row _ _ _ _ _ _ HROW6.out]; rfl
      have hP := lruPut_any w1.heap.size tb mb k R xs x.k x.a x.b w6 HM6.out.lru hko.1 hR0 hxk (by omega) (by omega)
      clear hrow hko
      go_wp2_with fail
      refine hP.mono ?_
      rintro e w7 ⟨A6, n6, c6, rfl, ho6, hp7, ht7⟩
      have hM7 := HM6.out.turn hp7 ht7
      have hrow7 := row_turn ht7 HROW6.out (by decide) (by decide)
      have hQ := put14_any R A5 n5 c5 xs x.k x.a x.b w7 hM7.own.rd (by have := HN5.out; have := HKO.out.2; omega) HKO.out.1 hR0
      have hO1 : w7.cell? ⟨ob, 1, none⟩ = some (.string (bs x.k)) := by rw [cell_of_row _ _ _ _ _ _ hrow7]; rfl
      have hO2 : w7.cell? ⟨ob, 2, none⟩ = some (.int .i64 x.a) := by rw [cell_of_row _ _ _ _ _ _ hrow7]; rfl
      have hO3 : w7.cell? ⟨ob, 3, none⟩ = some (.int .i64 x.b) := by rw [cell_of_row _ _ _ _ _ _ hrow7]; rfl
      obtain ⟨b0, b1, f0, f1⟩ := hM7.cells
      have HM7 := Lib.hid hM7
      have hB6 : w1.heap.size ≤ w6.heap.size := HM6.out.below.size
      have HO6 := Lib.hid (ho6.mono hB6)
      have HN6 := Lib.hid ho6.rd.1
      clear hP ht7 hp7 hrow7 ho6 hM7 HROW6 hB6 HM6
      generalize (lputL R x.k x.a x.b xs).2.1 = gone at *
      generalize (lputL R x.k x.a x.b xs).2.2 = pb at *
      generalize (lputL R x.k x.a x.b xs).1 = ys at *
      unfold tabV at hQ
      go_wp2_with fail
      refine hQ.mono ?_
      rintro e w8 ⟨A7, n7, c7, G, gn, gc, rfl, hr8, hg8, hk8, hb8⟩
      have hM8 := HM7.out.step hb8
      have ho8 := hk8 (rb + 1) HM7.out.lt HM7.out.own
      have hal := alloc_below w8 (.cells #[.int .i64 R, .slice A7 n7 c7] 28)
      have hro := heap_alloc_new w8 (.cells #[.int .i64 R, .slice A7 n7 c7] 28)
      have hM9 := hM8.step hal
      have ho9 := ho8.step hal
      have hg9 := HO6.out.step (hb8.trans (hal.mono hb8.size))
      clear hQ hb8 hM8 ho8 hk8 hr8 hg8 hal HO6 HM7
      go_upto_region 12 with fail
      generalize w8.alloc (.cells #[.int .i64 R, .slice A7 n7 c7] 28) = w9 at *
      generalize w8.heap.size = nb at *
      obtain ⟨b0, b1, f0, f1⟩ := hM9.cells
      obtain ⟨d0, d1, -, -⟩ := row_facts2 hro
      have hMA := hM9.store ho9
      have hgA : MR ((w9.setCell ⟨rb, 0, none⟩ (.int .i64 R)).setCell ⟨rb, 1, none⟩ (.slice A7 n7 c7)) w1.heap.size A6 n6 := ((MR.of hg9).set hM9.box 0 _).set (heap_set hM9.box rb 0 (.int .i64 R)) 1 _
      clear hM9 ho9 hro hg9
      go_upto_region 13 with fail
      generalize (w9.setCell ⟨rb, 0, none⟩ (.int .i64 R)).setCell ⟨rb, 1, none⟩ (.slice A7 n7 c7) = wA at *
      clear b0 b1 f0 f1 d0 d1
      have hyl : ys.length ≤ 1000000 := by have := HYL.out.1; have := HKO.out.2; omega
      have hn6 : n6 ≤ 1000000 := by have := HN6.out; have := HYL.out.2; have := HKO.out.2; omega
      go_wp2_with fail
      refine (lruKeys_any w1.heap.size tb mb (k + 1) R ys wA hMA.lru hyl).mono ?_
      rintro e wB ⟨AB, nB, cB, rfl, hoB, hpB, hbB⟩
      have hMB := hMA.step hbB
      have hgB := hgA.step hbB
      have hkB := (MR.of hoB).mono hMA.below.size
      have hnB : nB ≤ 1000000 := by have := hoB.rd.1; simp at this; omega
      clear hMA hgA hoB hpB hbB
      go_wp2
      go_loopg [15] n6 (fun r t wr => ∃ j : Nat, j ≤ n6 ∧ r + j = n6 ∧ t = .int .i64 j ∧ LM w1 wr w1.heap.size tb rb R mb (k + 1) ys ys A7 n7 c7 ∧ MR wr w1.heap.size A6 n6 ∧ MR wr w1.heap.size AB nB)
      case atStart => exact ⟨0, by omega, by omega, rfl, hMB, hgB, hkB⟩
      case round =>
        clear hMB hgB hkB
        obtain ⟨j, hj, hrj, rfl, hMj, hgj, hkj⟩ := hrel
        obtain ⟨wj, rfl⟩ : ∃ wj, wj = wr := ⟨_, rfl⟩
        by_cases hltj : j < n6
        · obtain ⟨g2, cur, rfl, hg2, hrow2, hcur⟩ : ∃ (g : Nat) (cur : Array Value), A6 = some ⟨g, 0, none⟩ ∧ w1.heap.size ≤ g ∧ wj.heap[g]? = some (.cells cur 9 (0, 0)) ∧ n6 ≤ cur.size := by
            rcases hgj with h | h
            · omega
            · exact h
          obtain ⟨v, hv⟩ : ∃ v, wj.cell? ⟨g2, 0 + j, none⟩ = some v := by
            rw [cell_of_row _ _ _ _ _ _ hrow2]
            exact ⟨_, Array.getElem?_eq_getElem (by omega)⟩
          have hfz : wj.frozen? ⟨g2, 0 + j, none⟩ = false := by simp only [World.frozen?, hrow2]; simp
          have j0 : (0 : Int) ≤ (j : Int) := by omega
          have j1 : (j : Int) < (n6 : Int) := by omega
          rw [Nat.zero_add] at hv hfz
          have HMN := Lib.hid (hMj.mark hrow2 hg2 j (.string (bs [109, 97, 114, 107])))
          have HGN := Lib.hid (MR.set hgj hrow2 j (.string (bs [109, 97, 114, 107])))
          have HKN := Lib.hid (MR.set hkj hrow2 j (.string (bs [109, 97, 114, 107])))
          clear hMj hgj hkj hrow2
          go_wp2
          go_roundg (n6 - (j + 1))
          case measure => omega
          case rel => exact ⟨j + 1, by omega, by omega, by go_num, HMN.out, HGN.out, HKN.out⟩
        · obtain rfl : j = n6 := by omega
          clear hgj
          go_wp2
          go_loopg [16] nB (fun r t wr => ∃ j : Nat, j ≤ nB ∧ r + j = nB ∧ t = .int .i64 j ∧ LM w1 wr w1.heap.size tb rb R mb (k + 1) ys ys A7 n7 c7 ∧ MR wr w1.heap.size AB nB)
          case atStart => exact ⟨0, by omega, by omega, rfl, hMj, hkj⟩
          case round =>
            clear hMj hkj
            obtain ⟨j, hj, hrj, rfl, hMj, hkj⟩ := hrel
            obtain ⟨wj, rfl⟩ : ∃ wj, wj = wr := ⟨_, rfl⟩
            by_cases hltj : j < nB
            · obtain ⟨g2, cur, rfl, hg2, hrow2, hcur⟩ : ∃ (g : Nat) (cur : Array Value), AB = some ⟨g, 0, none⟩ ∧ w1.heap.size ≤ g ∧ wj.heap[g]? = some (.cells cur 9 (0, 0)) ∧ nB ≤ cur.size := by
                rcases hkj with h | h
                · omega
                · exact h
              obtain ⟨v, hv⟩ : ∃ v, wj.cell? ⟨g2, 0 + j, none⟩ = some v := by
                rw [cell_of_row _ _ _ _ _ _ hrow2]
                exact ⟨_, Array.getElem?_eq_getElem (by omega)⟩
              have hfz : wj.frozen? ⟨g2, 0 + j, none⟩ = false := by simp only [World.frozen?, hrow2]; simp
              have j0 : (0 : Int) ≤ (j : Int) := by omega
              have j1 : (j : Int) < (nB : Int) := by omega
              rw [Nat.zero_add] at hv hfz
              have HMN := Lib.hid (hMj.mark hrow2 hg2 j (.string (bs [109, 97, 114, 107])))
              have HKN := Lib.hid (MR.set hkj hrow2 j (.string (bs [109, 97, 114, 107])))
              clear hMj hkj hrow2
              go_wp2
              go_roundg (nB - (j + 1))
              case measure => omega
              case rel => exact ⟨j + 1, by omega, by omega, by go_num, HMN.out, HKN.out⟩
            · obtain rfl : j = nB := by omega
              go_wp2
              go_roundg (m - (k + 1))
              case measure => omega
              case rel => exact ⟨k + 1, A7, n7, c7, by omega, by omega, by go_num, by rw [HS.out]; exact hMj⟩
    · obtain rfl : k = m := by omega
      have hko := putsM_ok hR0 hR1 sc HKL.out k
      generalize putsM R (sc.take k) = ys at *
      have hyl3 : ys.length ≤ 1000000 := by omega
      have hn5 : ys.length = n5 := hM.own.rd.1
      have hn5' : n5 ≤ 1000000 := by omega
      have HMd := Lib.hid hM.drew
      obtain ⟨b0, b1, f0, f1⟩ := hM.cells
      clear hM hn5 hko hsr
      go_wp2
      go_region_held3 (fun w' => w'.cell? ⟨rb, 0, none⟩ = some (.int .i64 R) ∧ w'.cell? ⟨rb, 1, none⟩ = some (.slice A5 n5 c5) ∧ LM w1 w' w1.heap.size tb rb R mb k ys ys A5 n5 c5)
        ((first | exact lm3 HMd.out | exact lm3 hN9 | exact lm3 hN9b | exact lm3 hN10 | exact lm3 hN10b | exact lm3 hN11))
        ((first
          | (go_at_call 28; (with_reducible refine (lruKeys_any w1.heap.size tb mb k R ys wo.drew HMd.out.lru hyl3).mono ?_); rintro e w9 ⟨A9, n9, c9, rfl, ho9, hp9, hb9⟩; have hN9 := HMd.out.step hb9; have hr9 := ho9.rd)
          | (go_at_call 29; (with_reducible refine (keys14_q HMd.out hn5').mono ?_); rintro e w9b ⟨A9, n9, c9, rfl, ho9, hb9⟩; have hN9b := HMd.out.step hb9; have hr9 := ho9.rd)
          | (go_at_call 29; (with_reducible refine (keys14_q hN9 hn5').mono ?_); rintro e w10 ⟨A10, n10, c10, rfl, ho10, hb10⟩; have hN10 := hN9.step hb10; have hr10 := ho10.rd; have hr9x := hr9.step hb10)
          | (go_at_call 28; (with_reducible refine (lruKeys_any w1.heap.size tb mb k R ys w9b hN9b.lru hyl3).mono ?_); rintro e w10b ⟨A10, n10, c10, rfl, ho10, hp10, hb10⟩; have hN10b := hN9b.step hb10; have hr10 := ho10.rd; have hr9x := hr9.step hb10)
          | (go_at_call 20; have hS := same_keys (c := c9) (d := c10) hr9x hr10 hyl3; (with_reducible refine hS.mono ?_); rintro e w11 ⟨rfl, hb11⟩; have hN11 := hN10.step hb11)
          | (go_at_call 20; have hS := same_keys (c := c10) (d := c9) hr10 hr9x hyl3; (with_reducible refine hS.mono ?_); rintro e w11 ⟨rfl, hb11⟩; have hN11 := hN10b.step hb11)))
      all_goals
        go_wp2
        go_ret
        exact ⟨rfl, bnext hb1 hN11.below hb1.size⟩

theorem own : ownKnob Try.prog.godebug = none := by kernel_rfl
theorem contract (H : Type) (enc : TypeId × Value → H) (W : World) (base : Nat) (args : Array Value) (ds gs : List (DataW H)) (before : List MemPlace)
    (hval : ∀ (j : Nat) t v, Try.f7.params[j]? = some t → args[j]? = some v → Value.okWide Try.prog W .any base t v)
    (hW : DataW.Whole enc Try.prog Try.f7.params.toList Rows.lruMemorySpec.vars false W args.toList ds gs before) (hsz : (DataW.weightsEach Try.prog (Try.f7.params.toList ++ Rows.lruMemorySpec.plain.varTypes Try.prog) (ds ++ gs)).all (· ≤ reachBytes) = true) :
    Calls Try.prog 7 args W fun e W' => ∃ v, e = .returned v ∧ Rows.lruMemorySpec.post enc Try.prog Try.f7 false true false false W args v W' := by
  have hW' := hW
  obtain ⟨p, q, hA0, hV, rfl, hfz, hnd⟩ := hW
  have hA : DataW.TrodAll enc Try.prog W 0 (fun _ => true) true Try.f7.params.toList args.toList ds p := hA0
  rw [Try.params7] at hA hval hsz
  obtain ⟨v0, vs0, d0, ds0, p0, q0, hargs, rfl, rfl, h0, r0⟩ := trodAll_cons hA
  obtain ⟨v1, vs1, d1, ds1, p1, q1, rfl, rfl, rfl, h1, r1⟩ := trodAll_cons r0
  obtain ⟨rfl, rfl, rfl⟩ := trodAll_nil r1
  obtain rfl : args = #[v0, v1] := by cases args; simp_all
  obtain ⟨rfl, rfl⟩ := trodVars_none hV
  obtain ⟨i0, rfl, hi0, hj0⟩ := opI (hval 0 3 v0 rfl rfl) h0
  obtain ⟨A1, n1, c1, l1, rfl, hr1, hc1, hd1, he1⟩ := opOp14k (hval 1 22 v1 rfl rfl) h1
  clear hA0
  refine (walk W i0 hi0 hj0 A1 n1 c1 l1 hr1 hc1 hd1 he1).mono fun e W' ⟨he, hg⟩ => ?_
  subst he
  exact ⟨_, rfl, post_of_below (pa := p0 ++ (p1 ++ ([]))) (pv := []) hW' (fun _ _ _ => (trodAll_cons_mk (shut_bool Try.underlying4 _) trodAll_mk0)) (fun sp hsp => (trodAll_cons_mk (arg_stays laidOut (by kernel_rfl) (of_decide_eq_true (by kernel_rfl)) h0 hg (fun x hx => hW'.lt x (by simp [hx])) sp (fun x hx => hsp x (by simp [hx]))) (trodAll_cons_mk (arg_stays laidOut (by kernel_rfl) (of_decide_eq_true (by kernel_rfl)) h1 hg (fun x hx => hW'.lt x (by simp [hx])) sp (fun x hx => hsp x (by simp [hx]))) trodAll_mk0))) (fun _ _ => rfl) rfl
    hg (ok_one (by kernel_rfl) rfl (okWide_bool_mk Try.underlying4 _))⟩

set_option maxRecDepth 100000 in
theorem lifted (os : Os) (started : os.Started) (H : Type) (enc : TypeId × Value → H) :
    ReturnsInHanded {} Try.checked os 7 .any (Rows.lruMemorySpec.pre6 enc Try.prog Try.f7 Rows.lruMemoryRow.domain false) (Rows.lruMemorySpec.post enc Try.prog Try.f7 false true false false) := by
  refine returnsInHanded_of_change_sized (C := Try.checked) own started (by kernel_rfl) Try.func7
    (ChangeSpec.witness6 (enc := enc) (C := Try.checked) false ⟨#[], #[.int .i64 0, .slice none 0 0], []⟩ 8 (by kernel_rfl) (by kernel_rfl) (by kernel_rfl) (by kernel_rfl)) ?_
  intro W base args ds gs before hval hW _ hsz _
  exact contract H enc W base args ds gs before hval hW hsz

theorem over : Rows.lruMemoryRow.holds Try.pinned (OpenSpec.ofChange Rows.lruMemorySpec) :=
  OpenClaim.holds_of_wide 7 Try.f7 rfl rfl rfl rfl rfl rfl rfl ⟨rfl, rfl, rfl, rfl, rfl⟩ rfl rfl rfl rfl rfl (by kernel_rfl) Try.func7 (by kernel_rfl)
    (of_decide_eq_true (by kernel_rfl)) (by unfold Func.isWrapper; first | (rw [if_pos (by decide +kernel)]; kernel_rfl) | (rw [if_neg (by decide +kernel)]; exact ⟨rfl, rfl⟩))
    (fun os started H enc _ => lifted os started H enc)

theorem proved : Rows.LruMemorySaid :=
  over
end Go.Proofs.Ytepedjnmliclkaa.lruMemory
