/- LruGone: for every input the law answers true and leaves its arguments as they were. No conditions. -/
import Derived.Test.YtepedjnmliclkaaRows
import Derived.Test.YtepedjnmliclkaaLruM
import Derived.StillTailTactics
import Derived.Deep.LoopGhost
import Derived.Test.YtepedjnmliclkaaOpenL
import Derived.WalkKit
import Derived.ProofKit
import Derived.OpenShut
import Derived.JoinedCond
set_option linter.unusedVariables false
set_option linter.unusedSimpArgs false
set_option maxRecDepth 100000
namespace Go.Proofs.Ytepedjnmliclkaa.lruGone
open Go.ChangeShapes Go.WideShapes Go.ChangeAt Go.RowKit

def putsL (R : Int) (sc : List Op4) : List Cn := sc.foldl (fun xs o => (lputL R o.k o.a o.b xs).1) []
theorem puts_snoc {R : Int} {sc : List Op4} {k : Nat} {x : Op4} (h : sc[k]? = some x) : putsL R (sc.take (k + 1)) = (lputL R x.k x.a x.b (putsL R (sc.take k))).1 := by
  unfold putsL
  rw [take_snoc? h, List.foldl_append]; rfl
theorem puts_ok {R : Int} (h0 : 0 ≤ R) (h1 : R ≤ 1073741824) (sc : List Op4) (hk : ∀ x ∈ sc, x.k.length ≤ maxLen) (k : Nat) : ItemsOK R (putsL R (sc.take k)) ∧ (putsL R (sc.take k)).length ≤ k := by
  induction k with
  | zero => exact ⟨items_nil h0 h1, by simp [putsL]⟩
  | succ k ih =>
    by_cases hl : k < sc.length
    · rw [puts_snoc (List.getElem?_eq_getElem hl)]
      exact ⟨ih.1.put (hk sc[k] (List.getElem_mem hl)), by have := (lputL_len R sc[k].k sc[k].a sc[k].b (putsL R (sc.take k))).1; omega⟩
    · rw [List.take_of_length_le (by omega)] at ih ⊢
      exact ⟨ih.1, by omega⟩
def wentB (s : List UInt8) (g : List (List UInt8)) (u : List UInt8) : Bool := u == s || g.any fun v => v == u
theorem wentB_snoc {s u : List UInt8} {g : List (List UInt8)} {k : Nat} {v : List UInt8} (h : g[k]? = some v) : wentB s (g.take (k + 1)) u = (wentB s (g.take k) u || v == u) := by
  unfold wentB
  rw [take_snoc? h, List.any_append]
  simp [Bool.or_assoc]
theorem evR_split (lim : Int) : ∀ r : List Cn, ∃ d, r = d ++ (evR lim r).1 ∧ (evR lim r).2 = d.map (·.o)
  | [] => ⟨[], rfl, rfl⟩
  | x :: r => by
    unfold evR
    split
    · obtain ⟨d, h1, h2⟩ := evR_split lim r
      exact ⟨x :: d, by dsimp only; rw [List.cons_append, ← h1], by dsimp only; rw [h2]; rfl⟩
    · exact ⟨[], rfl, rfl⟩
theorem gone_bad {R : Int} {s : List UInt8} {v size : Int} {xs : List Cn} (h : (lputL R s v size xs).2.2 = false) : (lputL R s v size xs).1 = xs ∧ (lputL R s v size xs).2.1 = [] := by
  unfold lputL at h ⊢
  split
  · exact ⟨rfl, rfl⟩
  · rename_i hc
    rw [if_neg hc] at h; simp at h
theorem gone_rest {R : Int} {s : List UInt8} {v size : Int} {xs : List Cn} (h : ItemsOK R xs) (hok : (lputL R s v size xs).2.2 = true) :
    (lputL R s v size xs).1.map (·.o) = s :: (xs.map (·.o)).filter (fun u => !wentB s (lputL R s v size xs).2.1 u) ∧ ∀ u ∈ (lputL R s v size xs).2.1, u ≠ s := by
  unfold lputL at hok ⊢
  split
  · rename_i hc
    rw [if_pos hc] at hok; simp at hok
  · dsimp only
    have hw := h.wo s
    have hns : ∀ x ∈ woL s xs, x.o ≠ s := fun x hx => (woL_not hx).2
    have hfx : ∀ g, xs.filter (fun x => !wentB s g x.o) = (woL s xs).filter (fun x => !(g.any fun v => v == x.o)) := by
      intro g
      unfold woL wentB
      rw [List.filter_filter]
      congr 1
      funext x
      cases (x.o == s) <;> simp
    unfold evL
    obtain ⟨d, h1, h2⟩ := evR_split (R - size) (woL s xs).reverse
    dsimp only
    rw [h2]
    generalize (evR (R - size) (woL s xs).reverse).1 = e at *
    have hW : woL s xs = e.reverse ++ d.reverse := by
      have := congrArg List.reverse h1
      simpa using this
    refine ⟨?_, ?_⟩
    · rw [List.map_cons, List.filter_map]
      congr 1
      congr 1
      show e.reverse = xs.filter (fun x => !wentB s (d.map (·.o)) x.o)
      rw [hfx, hW, List.filter_append]
      have hk := hw.keys
      unfold KeysOK at hk
      rw [hW, List.map_append, List.nodup_append] at hk
      obtain ⟨-, -, hdis⟩ := hk
      rw [List.filter_eq_self.2, List.filter_eq_nil_iff.2, List.append_nil]
      · intro x hx
        simp
        exact ⟨x, by simpa using hx, rfl⟩
      · intro x hx
        simp
        intro y hy e2
        exact hdis x.o (List.mem_map.2 ⟨x, hx, rfl⟩) y.o (List.mem_map.2 ⟨y, by simpa using hy, rfl⟩) e2.symm
    · intro u hu
      obtain ⟨y, hy, rfl⟩ := List.mem_map.1 hu
      exact hns y (by rw [hW]; simp [hy])
theorem filt_snoc {p : List UInt8 → Bool} {l : List (List UInt8)} {k : Nat} {u : List UInt8} (h : l[k]? = some u) : (l.take (k + 1)).filter p = (l.take k).filter p ++ (if p u = true then [u] else []) := by
  rw [take_snoc? h, List.filter_append]
  congr 1
  cases hp : p u <;> simp [hp]
set_option maxRecDepth 100000 in
set_option maxHeartbeats 4000000 in
theorem walk (w : World) (room : Int) (hm1 : -9223372036854775808 ≤ room) (hm2 : room ≤ 9223372036854775807)
    (A : Option Addr) (n c : Nat) (l : List Op4) (hA : RdO w A n l) (hnc : n ≤ c) (hcm : c ≤ 9223372036854775807) (hkl : ∀ x ∈ l, x.k.length ≤ maxLen) (y : Op4) (hyk : y.k.length ≤ maxLen) :
    Calls Try.prog 6 #[.int .i64 room, .slice A n c, .agg #[.int .i64 y.w, .string (bs y.k), .int .i64 y.a, .int .i64 y.b]] w fun e w' => e = .returned (.bool true) ∧ Below w.heap.size w w' := by
  have hR0 : 0 ≤ roomL room := by unfold roomL; split <;> (try split) <;> omega
  have hR1 : roomL room ≤ 1073741824 := by unfold roomL; split <;> (try split) <;> omega
  have hal := alloc_below w (.cells #[.int .i64 y.w, .string (bs y.k), .int .i64 y.a, .int .i64 y.b] 32)
  have hro := heap_alloc_new w (.cells #[.int .i64 y.w, .string (bs y.k), .int .i64 y.a, .int .i64 y.b] 32)
  have hA0 := hA.step hal
  go_enter Try.func6, Try.ntmps6
  go_wp2_with fail
  refine (alive14_any _).mono ?_
  rintro e w1 ⟨rfl, hb1⟩
  have hro1 := row_keep hro hb1
  have hb1 := bnext hal hb1 hal.size
  have hl1 := hA.step hb1
  clear hal hro hA0
  have hlt1 : w.heap.size < w1.heap.size := (Array.getElem?_eq_some_iff.1 hro1).1
  have y1 : w1.cell? ⟨w.heap.size, 1, none⟩ = some (.string (bs y.k)) := by rw [cell_of_row _ _ _ _ _ _ hro1]; rfl
  have y2 : w1.cell? ⟨w.heap.size, 2, none⟩ = some (.int .i64 y.a) := by rw [cell_of_row _ _ _ _ _ _ hro1]; rfl
  have y3 : w1.cell? ⟨w.heap.size, 3, none⟩ = some (.int .i64 y.b) := by rw [cell_of_row _ _ _ _ _ _ hro1]; rfl
  clear hro1
  go_wp2_with fail
  refine (lruNew_any room w1).mono ?_
  rintro e w2 ⟨tb, mb, rfl, hp2, hb2⟩
  have hl2 := hl1.step hb2
  have hbA := bnext hb1 hb2 hb1.size
  go_wp2_with fail
  refine (cutL_any A n c l w2 hl2 hnc hcm).mono ?_
  rintro e w3 ⟨m, rfl, hm3, hmc, hl3, rfl⟩
  have hsc := cut_back hA hl3
  have HKL : Hid (∀ x ∈ l.take 300, x.k.length ≤ maxLen) := Lib.hid fun x hx => hkl x (List.mem_of_mem_take hx)
  generalize l.take 300 = sc at *
  have hlen := hsc.1
  clear hl1 hl2 hA hl3 hkl
  generalize roomL room = R at *
  go_wp2
  go_loopg [8] m (fun r t wr => ∃ k : Nat, k ≤ m ∧ r + k = m ∧ t = .int .i64 k ∧ LruX wr w1.heap.size tb R mb k (putsL R (sc.take k)) ∧ Below w1.heap.size w1 wr)
  case atStart => exact ⟨0, by omega, by omega, rfl, hp2, hb2⟩
  case round =>
    clear hp2 hb2 hbA
    obtain ⟨k, hk, hr, rfl, hpx, hbr⟩ := hrel
    obtain ⟨wo, rfl⟩ : ∃ wo, wo = wr := ⟨_, rfl⟩
    have hbw := bnext hb1 hbr hb1.size
    have hko := puts_ok hR0 hR1 sc HKL.out k
    by_cases hlt : k < m
    · obtain ⟨g, o, x, rfl, hg, HX, c0, c1, c2, c3⟩ := (hsc.step hbw).at_ hlt
      have k0 : (0 : Int) ≤ (k : Int) := by omega
      have k1 : (k : Int) < (m : Int) := by omega
      have hxk := HKL.out x (mem_of_get? HX.out)
      have HS := Lib.hid (puts_snoc (R := R) HX.out)
      generalize putsL R (sc.take k) = xs at *
      have hP := lruPut_any w1.heap.size tb mb k R xs x.k x.a x.b wo.drew hpx.drew hko.1 hR0 hxk (by omega) (by omega)
      clear y1 y2 y3 hpx
      go_wp2
      go_still_tail 16, (by kernel_rfl)
      change wpList _ _ _ _ _ wo.drew
      go_wp2_with fail
      refine hP.mono ?_
      rintro e w4 ⟨A4, n4, c4, rfl, ho4, hp4, ht4⟩
      go_wp2
      go_roundg (m - (k + 1))
      case measure => omega
      case rel => exact ⟨k + 1, by omega, by omega, by go_num, by rw [HS.out]; exact hp4, hbr.drew.trans ht4.below⟩
    · obtain rfl : k = m := by omega
      clear hlen hsc HKL
      have y1 := (hbr.cell (p := ⟨w.heap.size, 1, none⟩) hlt1).trans y1
      have y2 := (hbr.cell (p := ⟨w.heap.size, 2, none⟩) hlt1).trans y2
      have y3 := (hbr.cell (p := ⟨w.heap.size, 3, none⟩) hlt1).trans y3
      obtain ⟨hix, hlx⟩ := hko
      generalize putsL R (sc.take k) = xs at *
      have HGR := Lib.hid (gone_rest (R := R) (s := y.k) (v := y.a) (size := y.b) hix)
      have HGB := Lib.hid (gone_bad (R := R) (s := y.k) (v := y.a) (size := y.b) (xs := xs))
      have hln := lputL_len R y.k y.a y.b xs
      have hiy := hix.put (v := y.a) (size := y.b) hyk
      go_wp2_with fail
      refine (lruKeys_any w1.heap.size tb mb k R xs wo hpx (by omega)).mono ?_
      rintro e w5 ⟨A5, n5, c5, rfl, ho5, hp5, hb5⟩
      have hlo := hbr.size
      have y1 := (hb5.cell (p := ⟨w.heap.size, 1, none⟩) (by show w.heap.size < _; omega)).trans y1
      have y2 := (hb5.cell (p := ⟨w.heap.size, 2, none⟩) (by show w.heap.size < _; omega)).trans y2
      have y3 := (hb5.cell (p := ⟨w.heap.size, 3, none⟩) (by show w.heap.size < _; omega)).trans y3
      have hB5 := hbr.trans (hb5.mono hbr.size)
      have hP := lruPut_any w1.heap.size tb mb k R xs y.k y.a y.b w5 hp5 hix hR0 hyk (by omega) (by omega)
      generalize lputL R y.k y.a y.b xs = P at *
      obtain ⟨ys, gl, okb⟩ := P
      dsimp only at *
      clear hpx hbr hbw hb5 hp5
      go_wp2_with fail
      refine hP.mono ?_
      rintro e w6 ⟨A6, n6, c6, rfl, ho6, hp6, ht6⟩
      have hO5 : OwnS w6 wo.heap.size (.slice A5 n5 c5) (xs.map (·.o)) := own_turn ht6 ho5 (by decide) (by decide)
      have hB6 := hB5.trans ht6.below
      have hl5 := hB5.size
      have hl6 := ht6.below.size
      have y1 := (ht6.below.cell (p := ⟨w.heap.size, 1, none⟩) hlt1).trans y1
      clear y2 y3 hP ht6 ho5
      go_wp2_with fail
      refine (lruKeys_any w1.heap.size tb mb (k + 1) R ys w6 hp6 (by omega)).mono ?_
      rintro e w7 ⟨A7, n7, c7, rfl, ho7, hp7, hb7⟩
      have hB7 := hB6.trans (hb7.mono hB6.size)
      have hBw7 := bnext hb1 hB7 hb1.size
      have y1 := (hb7.cell (p := ⟨w.heap.size, 1, none⟩) (by show w.heap.size < _; omega)).trans y1
      have hr5 := hO5.rd.step hb7
      have hr6 := ho6.rd.step hb7
      have hr7 := ho7.rd
      have hl7 := hb7.size
      have hn5 : xs.length = n5 := by have := hr5.1; simpa using this
      have hn6 : gl.length = n6 := hr6.1
      have hn7 : ys.length = n7 := by have := hr7.1; simpa using this
      clear hO5 ho6 ho7 hp6 hp7 hb7 hB6 hB7 hB5
      cases okb with
      | false =>
        obtain ⟨e1, e2⟩ := HGB.out rfl
        have HB7 := Lib.hid hBw7
        subst e1 e2
        have hn60 : ((n6 : Int) == 0) = true := by rw [show n6 = 0 by simpa using hn6.symm]; rfl
        clear hn6
        have hS := sameTexts_any A7 A5 n7 n5 c7 c5 _ _ w7 hr7 hr5 (by omega) (by omega)
        rw [beq_self_eq_true] at hS
        clear hr7 hr5 hr6 hBw7 HGR HGB
        go_wp2_with fail
        refine hS.mono ?_
        rintro e w8 ⟨rfl, hb8⟩
        go_wp2
        go_ret
        exact ⟨rfl, bnext HB7.out hb8 HB7.out.size⟩
      | true =>
        obtain ⟨e1, e2⟩ := HGR.out rfl
        have HRE := Lib.hid e1
        have HNG := Lib.hid e2
        have HB7 := Lib.hid hBw7
        have hown := OwnS.one w7 y.k
        have hal := alloc_below w7 (.cells #[.string (bs y.k)] 9)
        have hxl : (xs.map (·.o)).length = n5 := by simpa using hn5
        clear e1 e2 HGR HGB hBw7 hix hiy
        generalize xs.map (·.o) = bk at *
        generalize ys.map (·.o) = ak at *
        go_wp2
        go_loopg [13, 14] n5 (fun r rs t wr => ∃ (i : Nat) (A8 : Option Addr) (n8 c8 : Nat), i ≤ n5 ∧ r + i = n5 ∧ t = .int .i64 i ∧ rs = .slice A8 n8 c8 ∧ OwnS wr w7.heap.size (.slice A8 n8 c8) (y.k :: (bk.take i).filter (fun u => !wentB y.k gl u)) ∧ Below w7.heap.size w7 wr)
        case atStart => exact ⟨0, some ⟨w7.heap.size, 0, none⟩, 1, 1, by omega, by omega, rfl, rfl, hown, hal⟩
        case round =>
          clear hown hal
          obtain ⟨i, A8, n8, c8, hi, hri, rfl, rfl, hown, hbr⟩ := hrel
          obtain ⟨wi, rfl⟩ : ∃ wi, wi = wr := ⟨_, rfl⟩
          have y1 := (hbr.cell (p := ⟨w.heap.size, 1, none⟩) (by show w.heap.size < _; omega)).trans y1
          by_cases hlt : i < n5
          · obtain ⟨g, o, u, rfl, hg, HU, d1⟩ := (hr5.step hbr).at_ hlt
            have i0 : (0 : Int) ≤ (i : Int) := by omega
            have i1 : (i : Int) < (n5 : Int) := by omega
            have HFS := Lib.hid (filt_snoc (p := fun u => !wentB y.k gl u) HU.out)
            have HW0 : Hid (wentB y.k (gl.take 0) u = (u == y.k)) := Lib.hid (by simp [wentB])
            have HWE : Hid (wentB y.k (gl.take n6) u = wentB y.k gl u) := Lib.hid (by rw [List.take_of_length_le (by omega)])
            have hfl : ((bk.take i).filter (fun u => !wentB y.k gl u)).length ≤ 1000000 := Nat.le_trans (List.length_filter_le _ _) (by simp; omega)
            generalize (bk.take i).filter (fun u => !wentB y.k gl u) = fl at *
            go_wp2
            go_quiet (fail)
            go_wp2
            go_loopg [15, 16] n6 (fun r wt t wr => ∃ j : Nat, j ≤ n6 ∧ r + j = n6 ∧ t = .int .i64 j ∧ wt = .bool (wentB y.k (gl.take j) u) ∧ Below wi.heap.size wi wr)
            case atStart => exact ⟨0, by omega, by omega, rfl, by rw [HW0.out], below_drewN (Below.refl _ _) _⟩
            case round =>
              obtain ⟨j, hj, hrj, rfl, rfl, hbj⟩ := hrel
              obtain ⟨wj, rfl⟩ : ∃ wj, wj = wr := ⟨_, rfl⟩
              have hbij := bnext hbr hbj hbr.size
              have d1j := (hbj.cell (p := ⟨g, o + i, none⟩) hg).trans d1
              by_cases hltj : j < n6
              · obtain ⟨g2, o2, v, rfl, hg2, HV, d2⟩ := (hr6.step hbij).at_ hltj
                have j0 : (0 : Int) ≤ (j : Int) := by omega
                have j1 : (j : Int) < (n6 : Int) := by omega
                have HWS := Lib.hid (wentB_snoc (s := y.k) (u := u) HV.out)
                generalize wentB y.k (gl.take j) u = q at *
                cases hvu : v == u with
                | true =>
                  go_wp2
                  go_quiet (fail)
                  go_wp2
                  go_roundg (n6 - (j + 1))
                  case measure => omega
                  case rel => exact ⟨j + 1, by omega, by omega, by go_num, by rw [HWS.out, hvu]; simp, below_drewN hbj _⟩
                | false =>
                  go_wp2
                  go_quiet (fail)
                  go_wp2
                  go_roundg (n6 - (j + 1))
                  case measure => omega
                  case rel => exact ⟨j + 1, by omega, by omega, by go_num, by rw [HWS.out, hvu]; simp, below_drewN hbj _⟩
              · obtain rfl : j = n6 := by omega
                rw [HWE.out]
                have hownj : OwnS wj w7.heap.size (.slice A8 n8 c8) (y.k :: fl) := hown.step hbj
                cases hwt : wentB y.k gl u with
                | true =>
                  rw [hwt] at HFS
                  go_wp2
                  go_roundg (n5 - (i + 1))
                  case measure => omega
                  case rel => exact ⟨i + 1, A8, n8, c8, by omega, by omega, by go_num, rfl, by rw [HFS.out]; simpa using hownj, hbij⟩
                | false =>
                  rw [hwt] at HFS
                  have hszj := hbij.size
                  go_wp2_with
                    (at_builtin
                     refine wp_appS rfl (.tmp 105) (.tmp 110) rfl w7.heap.size (.slice A8 n8 c8) (y.k :: fl) rfl (hownj.step (alloc_below _ _)) (some ⟨wj.heap.size, 0, none⟩) 1 1 [u] rfl ?hr ?hby ?hbase ?_
                     case hr => exact one_rdS _ _ _
                     case hby => simp; omega
                     case hbase => simp; omega
                     intro A9 n9 c9 w9 hown9 hb9 hg9 hn9)
                  have hb9' := hbij.trans (((alloc_below wj (.cells #[.string (bs u)] 9)).mono hszj).trans hb9)
                  go_roundg (n5 - (i + 1))
                  case measure => omega
                  case rel => exact ⟨i + 1, A9, n9, c9, by omega, by omega, by go_num, rfl, by rw [HFS.out]; simpa using hown9, hb9'⟩
          · obtain rfl : i = n5 := by omega
            have HRD : Hid (RdS wi A8 n8 ak) := Lib.hid (by
              have := hown.rd
              rw [List.take_of_length_le (by omega)] at this
              rw [HRE.out]; exact this)
            have hr7i := hr7.step hbr
            clear hown hr5
            go_wp2
            go_loopg [17] n6 (fun r t wr => ∃ j : Nat, j ≤ n6 ∧ r + j = n6 ∧ t = .int .i64 j ∧ Below wi.heap.size wi wr)
            case atStart => exact ⟨0, by omega, by omega, rfl, Below.refl _ _⟩
            case round =>
              obtain ⟨j, hj, hrj, rfl, hbj⟩ := hrel
              obtain ⟨wj, rfl⟩ : ∃ wj, wj = wr := ⟨_, rfl⟩
              have hbij := bnext hbr hbj hbr.size
              have hszi := hbr.size
              have y1j := (hbj.cell (p := ⟨w.heap.size, 1, none⟩) (by show w.heap.size < _; omega)).trans y1
              by_cases hltj : j < n6
              · obtain ⟨g2, o2, v, rfl, hg2, HV, d2⟩ := (hr6.step hbij).at_ hltj
                have j0 : (0 : Int) ≤ (j : Int) := by omega
                have j1 : (j : Int) < (n6 : Int) := by omega
                have hne : (v == y.k) = false := beq_eq_false_iff_ne.2 (HNG.out v (mem_of_get? HV.out))
                go_wp2
                go_quiet (fail)
                go_wp2
                go_roundg (n6 - (j + 1))
                case measure => omega
                case rel => exact ⟨j + 1, by omega, by omega, by go_num, below_drewN hbj _⟩
              · have hn8 := HRD.out.1
                have hak := hr7.1
                have hS := sameTexts_any A7 A8 n7 n8 c7 c8 ak ak wj (hr7i.step hbj) (HRD.out.step hbj) (by omega) (by omega)
                rw [beq_self_eq_true] at hS
                go_wp2_with fail
                refine hS.mono ?_
                rintro e w9 ⟨rfl, hb9⟩
                go_wp2
                go_ret
                exact ⟨rfl, bnext (bnext HB7.out hbij HB7.out.size) hb9 (by have := (bnext HB7.out hbij HB7.out.size).size; exact this)⟩

theorem own : ownKnob Try.prog.godebug = none := by kernel_rfl
theorem contract (H : Type) (enc : TypeId × Value → H) (W : World) (base : Nat) (args : Array Value) (ds gs : List (DataW H)) (before : List MemPlace)
    (hval : ∀ (j : Nat) t v, Try.f6.params[j]? = some t → args[j]? = some v → Value.okWide Try.prog W .any base t v)
    (hW : DataW.Whole enc Try.prog Try.f6.params.toList Rows.lruGoneSpec.vars false W args.toList ds gs before) (hsz : (DataW.weightsEach Try.prog (Try.f6.params.toList ++ Rows.lruGoneSpec.plain.varTypes Try.prog) (ds ++ gs)).all (· ≤ reachBytes) = true) :
    Calls Try.prog 6 args W fun e W' => ∃ v, e = .returned v ∧ Rows.lruGoneSpec.post enc Try.prog Try.f6 false true false false W args v W' := by
  have hW' := hW
  obtain ⟨p, q, hA0, hV, rfl, hfz, hnd⟩ := hW
  have hA : DataW.TrodAll enc Try.prog W 0 (fun _ => true) true Try.f6.params.toList args.toList ds p := hA0
  rw [Try.params6] at hA hval hsz
  obtain ⟨v0, vs0, d0, ds0, p0, q0, hargs, rfl, rfl, h0, r0⟩ := trodAll_cons hA
  obtain ⟨v1, vs1, d1, ds1, p1, q1, rfl, rfl, rfl, h1, r1⟩ := trodAll_cons r0
  obtain ⟨v2, vs2, d2, ds2, p2, q2, rfl, rfl, rfl, h2, r2⟩ := trodAll_cons r1
  obtain ⟨rfl, rfl, rfl⟩ := trodAll_nil r2
  obtain rfl : args = #[v0, v1, v2] := by cases args; simp_all
  obtain ⟨rfl, rfl⟩ := trodVars_none hV
  obtain ⟨i0, rfl, hi0, hj0⟩ := opI (hval 0 3 v0 rfl rfl) h0
  obtain ⟨A1, n1, c1, l1, rfl, hr1, hc1, hd1, he1⟩ := opOp14k (hval 1 22 v1 rfl rfl) h1
  obtain ⟨x2, rfl, hk2⟩ := opOpV (hval 2 32 v2 rfl rfl) h2
  clear hA0
  refine (walk W i0 hi0 hj0 A1 n1 c1 l1 hr1 hc1 hd1 he1 x2 hk2).mono fun e W' ⟨he, hg⟩ => ?_
  subst he
  exact ⟨_, rfl, post_of_below (pa := p0 ++ (p1 ++ (p2 ++ ([])))) (pv := []) hW' (fun _ _ _ => (trodAll_cons_mk (shut_bool Try.underlying4 _) trodAll_mk0)) (fun sp hsp => (trodAll_cons_mk (arg_stays laidOut (by kernel_rfl) (of_decide_eq_true (by kernel_rfl)) h0 hg (fun x hx => hW'.lt x (by simp [hx])) sp (fun x hx => hsp x (by simp [hx]))) (trodAll_cons_mk (arg_stays laidOut (by kernel_rfl) (of_decide_eq_true (by kernel_rfl)) h1 hg (fun x hx => hW'.lt x (by simp [hx])) sp (fun x hx => hsp x (by simp [hx]))) (trodAll_cons_mk (arg_stays laidOut (by kernel_rfl) (of_decide_eq_true (by kernel_rfl)) h2 hg (fun x hx => hW'.lt x (by simp [hx])) sp (fun x hx => hsp x (by simp [hx]))) trodAll_mk0)))) (fun _ _ => rfl) rfl
    hg (ok_one (by kernel_rfl) rfl (okWide_bool_mk Try.underlying4 _))⟩

set_option maxRecDepth 100000 in
theorem lifted (os : Os) (started : os.Started) (H : Type) (enc : TypeId × Value → H) :
    ReturnsInHanded {} Try.checked os 6 .any (Rows.lruGoneSpec.pre6 enc Try.prog Try.f6 Rows.lruGoneRow.domain false) (Rows.lruGoneSpec.post enc Try.prog Try.f6 false true false false) := by
  refine returnsInHanded_of_change_sized (C := Try.checked) own started (by kernel_rfl) Try.func6
    (ChangeSpec.witness6 (enc := enc) (C := Try.checked) false ⟨#[], #[.int .i64 0, .slice none 0 0, .agg #[.int .i64 0, .string ⟨#[]⟩, .int .i64 0, .int .i64 0]], []⟩ 8 (by kernel_rfl) (by kernel_rfl) (by kernel_rfl) (by kernel_rfl)) ?_
  intro W base args ds gs before hval hW _ hsz _
  exact contract H enc W base args ds gs before hval hW hsz

theorem over : Rows.lruGoneRow.holds Try.pinned (OpenSpec.ofChange Rows.lruGoneSpec) :=
  OpenClaim.holds_of_wide 6 Try.f6 rfl rfl rfl rfl rfl rfl rfl ⟨rfl, rfl, rfl, rfl, rfl⟩ rfl rfl rfl rfl rfl (by kernel_rfl) Try.func6 (by kernel_rfl)
    (of_decide_eq_true (by kernel_rfl)) (by unfold Func.isWrapper; first | (rw [if_pos (by decide +kernel)]; kernel_rfl) | (rw [if_neg (by decide +kernel)]; exact ⟨rfl, rfl⟩))
    (fun os started H enc _ => lifted os started H enc)

theorem proved : Rows.LruGoneSaid :=
  over
end Go.Proofs.Ytepedjnmliclkaa.lruGone
