/- The document's table: New, Put. Conditions: items that are well, at most 10^6 of them. -/
import Derived.Test.YtepedjnmliclkaaRefL
import Derived.Deep.RegionHeld3
import Derived.Deep.LoopGhost
set_option linter.unusedVariables false
set_option linter.unusedSimpArgs false
namespace Go.Proofs.Ytepedjnmliclkaa
open Go.RowKit

set_option maxRecDepth 100000
theorem own_app {w w' : World} {b1 : Nat} {e1 : TypeId} {s1 n1 : Nat} {v1 : Value} {x1 : List Value} (h1 : w.ownsRow b1 e1 s1 v1 n1 x1) {b2 : Nat} {e2 : TypeId} {s2 n2 : Nat} {v2 : Value} {x2 : List Value} (h2 : w.ownsRow b2 e2 s2 v2 n2 x2) (hg : w.grownBy w' v2.ownBlock) (hne : e1 ≠ e2) : w'.ownsRow b1 e1 s1 v1 n1 x1 := by
  refine ⟨h1.1, ?_⟩
  rcases h1.2 with h | ⟨g, cap, cur, rfl, hb, hh, r⟩
  · exact .inl h
  · refine .inr ⟨g, cap, cur, rfl, hb, (hg.block g (Array.getElem?_eq_some_iff.1 hh).1 ?_).trans hh, r⟩
    rcases h2.2 with ⟨rfl, _⟩ | ⟨g2, cap2, cur2, rfl, _, hh2, _⟩
    · simp [Value.ownBlock]
    · intro e
      have : g2 = g := by simpa [Value.ownBlock] using e.symm
      subst this
      rw [hh] at hh2
      injection hh2 with hh2
      injection hh2 with _ h3 _
      exact hne h3
theorem held2 {w w' : World} {p q : Addr} {u v : Value} (h0 : w.cell? p = some u) (h1 : w.cell? q = some v) (hb : Below w.heap.size w w') : w'.cell? p = some u ∧ w'.cell? q = some v ∧ Below w.heap.size w w' :=
  ⟨(hb.cell (p := p) (World.block_lt_of_cell? w _ h0)).trans h0, (hb.cell (p := q) (World.block_lt_of_cell? w _ h1)).trans h1, hb⟩
theorem sum_take {room : Int} {l : List Cn} (h : ItemsOK room l) (k : Nat) : 0 ≤ sumW (l.take k) ∧ sumW (l.take k) ≤ 1073741824 := by
  have h0 : 0 ≤ sumW (l.take k) := sumW_nonneg fun y hy => (h.each y (List.mem_of_mem_take hy)).2
  have h1 : 0 ≤ sumW (l.drop k) := sumW_nonneg fun y hy => (h.each y (List.mem_of_mem_drop hy)).2
  have h2 : sumW l = sumW (l.take k) + sumW (l.drop k) := by
    unfold sumW
    rw [← List.sum_append, ← List.map_append, List.take_append_drop]
  have h3 := h.sum
  have h4 := h.room
  omega
theorem new14_any (room : Int) (w : World) : Calls Try.prog 15 #[.int .i64 room] w fun e w' => e = .returned (tabV (roomL room) none 0 0) ∧ Below w.heap.size w w' := by
  unfold tabV
  have hal := alloc_below w (.cells #[.int .i64 0, .slice none 0 0] 28)
  have hr := heap_alloc_new w (.cells #[.int .i64 0, .slice none 0 0] 28)
  generalize hw1 : w.alloc (.cells #[.int .i64 0, .slice none 0 0] 28) = w1 at *
  obtain ⟨c0, c1, f0, f1⟩ := row_facts2 hr
  have HRO : Hid (roomL room = if room < 0 then 0 else if 1073741824 < room then 1073741824 else room) := Lib.hid rfl
  have hcs : room < 0 ∨ (¬ room < 0 ∧ 1073741824 < room) ∨ (¬ room < 0 ∧ ¬ 1073741824 < room) := by omega
  rcases hcs with h1 | ⟨h1, h2⟩ | ⟨h1, h2⟩
  · have HR : Hid (roomL room = 0) := Lib.hid (by rw [HRO.out, if_pos h1])
    go_enter Try.func15, Try.ntmps15
    go_wp2
    refine bodyPost_ret (v := .agg #[.int .i64 0, .slice none 0 0]) (by simp [results, Try.results15, go_sem, c0, c1]) rfl ⟨by rw [HR.out], (hal.setCell (by simp) _).setCell (by simp) _⟩
  · have HR : Hid (roomL room = 1073741824) := Lib.hid (by rw [HRO.out, if_neg h1, if_pos h2])
    go_enter Try.func15, Try.ntmps15
    go_wp2
    refine bodyPost_ret (v := .agg #[.int .i64 1073741824, .slice none 0 0]) (by simp [results, Try.results15, go_sem, c0, c1]) rfl ⟨by rw [HR.out], (hal.setCell (by simp) _).setCell (by simp) _⟩
  · have HR : Hid (roomL room = room) := Lib.hid (by rw [HRO.out, if_neg h1, if_neg h2])
    go_enter Try.func15, Try.ntmps15
    go_wp2
    refine bodyPost_ret (v := .agg #[.int .i64 room, .slice none 0 0]) (by simp [results, Try.results15, go_sem, c0, c1]) rfl ⟨by rw [HR.out], (hal.setCell (by simp) _).setCell (by simp) _⟩
/-- A row of the call's own ahead of the call gives a row of the call's own behind it. -/
def KeepT (w w' : World) (v v' : Value) (l l' : List Cn) : Prop := ∀ B, B ≤ w.heap.size → OwnT 35 w B v l → OwnT 35 w' B v' l'
set_option maxHeartbeats 4000000 in
theorem put14_any (room : Int) (A : Option Addr) (n c : Nat) (l : List Cn) (s : List UInt8) (v size : Int) (w : World) (hl : RdT w A n l) (hn : n ≤ 1000000) (hi : ItemsOK room l) (hroom : 0 ≤ room) :
    Calls Try.prog 19 #[tabV room A n c, .string (bs s), .int .i64 v, .int .i64 size] w fun e w' => ∃ A' n' c' G gn gc, e = .returned (.tuple #[tabV room A' n' c', .slice G gn gc, .bool (lputL room s v size l).2.2]) ∧ RdT w' A' n' (lputL room s v size l).1 ∧ RdS w' G gn (lputL room s v size l).2.1 ∧ KeepT w w' (.slice A n c) (.slice A' n' c') l (lputL room s v size l).1 ∧ Below w.heap.size w w' := by
  have hal1 := alloc_below w (.cells #[.int .i64 room, .slice A n c] 28)
  have hr1 := heap_alloc_new w (.cells #[.int .i64 room, .slice A n c] 28)
  have hz1 : (w.alloc (.cells #[.int .i64 room, .slice A n c] 28)).heap.size = w.heap.size + 1 := by simp
  have hl1 := hl.step hal1
  generalize hw1 : w.alloc (.cells #[.int .i64 room, .slice A n c] 28) = w1 at *
  have hal2 := alloc_below w1 (.cells #[.int .i64 0, .slice none 0 0] 28)
  have hr2 := heap_alloc_new w1 (.cells #[.int .i64 0, .slice none 0 0] 28)
  have hz2 : (w1.alloc (.cells #[.int .i64 0, .slice none 0 0] 28)).heap.size = w.heap.size + 2 := by simp [hz1]
  have hl2 := hl1.step hal2
  replace hr1 := row_keep2 hr1 hal2 (by omega)
  have hb2 := bnext hal1 hal2 hal1.size
  rw [hz1] at hr2
  generalize hw2 : w1.alloc (.cells #[.int .i64 0, .slice none 0 0] 28) = w2 at *
  obtain ⟨b0, b1, f0, f1⟩ := row_facts2 hr1
  obtain ⟨d0, d1, g0, g1⟩ := row_facts2 hr2
  have hll : l.length ≤ 1000000 := by rw [hl.1]; exact hn
  have hrm := hi.room
  have HL := Lib.hid hl
  clear hal1 hal2 hl hl1
  unfold tabV
  by_cases hbad : size < 0 ∨ room < size
  · have hR : lputL room s v size l = (l, [], false) := by unfold lputL; rw [if_pos hbad]
    rw [hR]
    clear hR
    have hcs : size < 0 ∨ (0 ≤ size ∧ room < size) := by omega
    clear hbad hi hl2
    rcases hcs with h1 | ⟨h1, h2⟩
    all_goals
      go_enter Try.func19, Try.ntmps19
      go_wp2
      refine bodyPost_ret (v := .tuple #[.agg #[.int .i64 room, .slice A n c], .slice none 0 0, .bool false]) (by simp [results, Try.results19, go_sem, b0, b1, d0, d1]) rfl ⟨A, n, c, none, 0, 0, rfl, HL.out.step ((hb2.setCell (by simp) _).setCell (by simp) _), RdS.nil _ _, (fun B _ h => h.step ((hb2.setCell (by simp) _).setCell (by simp) _)), (hb2.setCell (by simp) _).setCell (by simp) _⟩
  · have hR : lputL room s v size l = (⟨s, v, size⟩ :: (evL (room - size) (woL s l)).1, (evL (room - size) (woL s l)).2, true) := by unfold lputL; rw [if_neg hbad]
    rw [hR]
    clear hR
    have hz0 : 0 ≤ size := by omega
    have hzr : size ≤ room := by omega
    clear hbad HL
    have hC := without14_any room A n c l s w2 hl2 hn
    have hiw := hi.wo s
    have hlw : (woL s l).length ≤ 1000000 := Nat.le_trans (List.length_filter_le _ _) hll
    have HNS : Hid (∀ x ∈ woL s l, x.o ≠ s) := Lib.hid fun x hx => (woL_not hx).2
    generalize woL s l = ys at *
    unfold tabV at hC
    clear hi hll hl2
    go_enter Try.func19, Try.ntmps19
    go_wp2_with fail
    refine hC.mono ?_
    rintro e w4 ⟨A4, n4, c4, rfl, ho4, hb4⟩
    replace hr1 := row_keep hr1 hb4
    replace hr2 := row_keep hr2 hb4
    have hbA := bnext hb2 hb4 hb2.size
    have hz4 := hb4.size
    obtain ⟨b0, b1, f0, f1⟩ := row_facts2 hr1
    clear hb4 hC
    have hs1 : ((w4.setCell ⟨w.heap.size, 0, none⟩ (.int .i64 room)).setCell ⟨w.heap.size, 1, none⟩ (.slice A4 n4 c4)).heap[w.heap.size]? = some (.cells #[.int .i64 room, .slice A4 n4 c4] 28 (0, 0)) := by
      rw [heap_set (heap_set hr1 _ _ _), if_pos rfl, if_pos rfl]; rfl
    have hs2 : ((w4.setCell ⟨w.heap.size, 0, none⟩ (.int .i64 room)).setCell ⟨w.heap.size, 1, none⟩ (.slice A4 n4 c4)).heap[w.heap.size + 1]? = some (.cells #[.int .i64 0, .slice none 0 0] 28 (0, 0)) := by
      rw [heap_set (heap_set hr2 _ _ _), if_neg (by omega), if_neg (by omega)]
    have hs0 : ((w4.setCell ⟨w.heap.size, 0, none⟩ (.int .i64 room)).setCell ⟨w.heap.size, 1, none⟩ (.slice A4 n4 c4)).heap.size = w4.heap.size := by simp
    have hO4 : OwnT 35 ((w4.setCell ⟨w.heap.size, 0, none⟩ (.int .i64 room)).setCell ⟨w.heap.size, 1, none⟩ (.slice A4 n4 c4)) w2.heap.size (.slice A4 n4 c4) ys := (ho4.setCell (by simp; omega) _).setCell (by simp; omega) _
    have hbB : Below w.heap.size w ((w4.setCell ⟨w.heap.size, 0, none⟩ (.int .i64 room)).setCell ⟨w.heap.size, 1, none⟩ (.slice A4 n4 c4)) := (hbA.setCell (by simp) _).setCell (by simp) _
    clear ho4 hbA hr1 hr2
    go_upto_region 4 with fail
    have hz5 : w.heap.size + 2 ≤ ((w4.setCell ⟨w.heap.size, 0, none⟩ (.int .i64 room)).setCell ⟨w.heap.size, 1, none⟩ (.slice A4 n4 c4)).heap.size := by rw [hs0]; omega
    generalize (w4.setCell ⟨w.heap.size, 0, none⟩ (.int .i64 room)).setCell ⟨w.heap.size, 1, none⟩ (.slice A4 n4 c4) = w5 at *
    clear hs0 hz4 b0 b1 f0 f1
    have hal := alloc_below w5 (.cells #[] 9)
    have hown := (OwnS.made w5).mono (show w.heap.size + 2 ≤ _ from hz5)
    have hO5 := (hO4.step hal).mono (show w.heap.size + 2 ≤ _ by omega)
    have hs1 := row_keep hs1 hal
    have hs2 := row_keep hs2 hal
    have hbC := bnext hbB hal hbB.size
    have hz6 := hal.size
    go_wp2
    go_loopg [11] ys.length (fun r gone wr => ∃ (rest : List Cn) (dn : List (List UInt8)) (A5 : Option Addr) (n5 c5 : Nat) (A6 : Option Addr) (n6 c6 : Nat), gone = .slice A6 n6 c6 ∧
      Hid (evR (room - size) ys.reverse = ((evR (room - size) rest.reverse).1, dn ++ (evR (room - size) rest.reverse).2) ∧ rest <+: ys ∧ ItemsOK room rest ∧ rest.length = r ∧ dn.length + rest.length ≤ 1000000) ∧
      wr.heap[w.heap.size]? = some (.cells #[.int .i64 room, .slice A5 n5 c5] 28 (0, 0)) ∧ wr.heap[w.heap.size + 1]? = some (.cells #[.int .i64 0, .slice none 0 0] 28 (0, 0)) ∧
      OwnT 35 wr (w.heap.size + 2) (.slice A5 n5 c5) rest ∧ OwnS wr (w.heap.size + 2) (.slice A6 n6 c6) dn ∧ Below w.heap.size w wr ∧ w.heap.size + 2 ≤ wr.heap.size)
    case atStart =>
      exact ⟨ys, [], A4, n4, c4, some ⟨w5.heap.size, 0, none⟩, 0, 0, rfl, Lib.hid ⟨by simp, List.prefix_refl _, hiw, rfl, by simpa using hlw⟩, hs1, hs2, hO5, hown, hbC, by omega⟩
    case round =>
      clear hO5 hown hs1 hs2 hbC hal hbB hO4
      obtain ⟨rest, dn, A5, n5, c5, A6, n6, c6, rfl, HF, hs1, hs2, hO5, hown, hbr, hzr2⟩ := hrel
      obtain ⟨wo, rfl⟩ : ∃ wo, wo = wr := ⟨_, rfl⟩
      obtain ⟨e1, e2, hir, e4, e5⟩ := HF.out
      obtain ⟨b0, b1, -, -⟩ := row_facts2 hs1
      have hB0 : Below wo.heap.size wo wo.drew := (Below.refl _ _).drew
      have hn5 : rest.length = n5 := hO5.rd.1
      have hU := used14_any room A5 n5 c5 rest wo.drew (hO5.rd.step hB0) (by omega) (sum_take hir)
      unfold tabV at hU
      have hus0 := sumW_nonneg (xs := rest) fun y hy => (hir.each y hy).2
      have hus1 := hir.sum
      have hwp : IntKind.i64.wrap (room - size) = room - size := IntWalk.i64_in _ (by omega)
      have HO5 := Lib.hid hO5
      have HOWN := Lib.hid hown
      have HS1 := Lib.hid hs1
      have HS2 := Lib.hid hs2
      have HBR := Lib.hid hbr
      have HIR := Lib.hid hir
      have HE := Lib.hid (And.intro e1 (And.intro e2 (And.intro e4 e5)))
      have HB0 : Hid (wo.cell? ⟨w.heap.size, 0, none⟩ = some (.int .i64 room) ∧ wo.cell? ⟨w.heap.size, 1, none⟩ = some (.slice A5 n5 c5)) := Lib.hid ⟨b0, b1⟩
      clear hO5 hown hs1 hs2 hbr hir HF e1 e2 e4 e5
      by_cases hc : room - size < sumW rest
      · have hpos : 0 < rest.length := by
          rcases Nat.eq_zero_or_pos rest.length with h0 | h0
          · rw [List.eq_nil_of_length_eq_zero h0] at hc
            simp [sumW] at hc
            omega
          · exact h0
        obtain ⟨r', x, rfl⟩ := snoc_of hpos
        obtain ⟨e1, e2, e4, e5⟩ := HE.out
        have hlen : (r' ++ [x]).length = r'.length + 1 := by simp
        rw [hlen] at hn5 e4 e5
        have hx : (r' ++ [x])[r'.length]? = some x := by simp
        have hw' : woL x.o (r' ++ [x]) = r' := by rw [← erase_woL HIR.out.keys hx, erase_last]
        have hse := sumW_erase hx
        rw [erase_last] at hse
        have hxb := HIR.out.each x (by simp)
        have HREL : Hid (evR (room - size) ys.reverse = ((evR (room - size) r'.reverse).1, (dn ++ [x.o]) ++ (evR (room - size) r'.reverse).2) ∧ r' <+: ys ∧ ItemsOK room r' ∧ (dn ++ [x.o]).length + r'.length ≤ 1000000) := Lib.hid (by
          refine ⟨?_, List.IsPrefix.trans (List.prefix_append _ _) e2, ?_, by simp; omega⟩
          · rw [e1]
            have hrev : (r' ++ [x]).reverse = x :: r'.reverse := by simp
            rw [hrev]
            have hc' : room - size < sumW (x :: r'.reverse) := by rw [← hrev, sumW_rev]; exact hc
            conv => lhs; unfold evR; rw [if_pos hc']
            simp
          · have hk := HIR.out.keys.erase r'.length
            rw [erase_last] at hk
            exact ⟨hk, fun y hy => HIR.out.each y (List.mem_append_left _ hy), by omega, HIR.out.room⟩)
        have HW := Lib.hid hw'
        have hdn : dn.length ≤ 1000000 := by omega
        have hrl : r'.length + 1 ≤ 1000000 := by omega
        have HE4 := Lib.hid e4
        have HX := Lib.hid hx
        have hdc : decide (room - size < sumW (r' ++ [x])) = true := by simpa using hc
        generalize sumW (r' ++ [x]) = us at *
        clear e1 e2 e4 e5 hw' hse hxb hx HE HIR hpos hlen
        go_wp2
        go_region_held3 (fun w' => w'.cell? ⟨w.heap.size, 0, none⟩ = some (.int .i64 room) ∧ w'.cell? ⟨w.heap.size, 1, none⟩ = some (.slice A5 n5 c5) ∧ Below wo.heap.size wo w')
          ((first | exact ⟨b0, b1, hB0⟩ | exact held2 HB0.out.1 HB0.out.2 (bnext hB0 hb6 hB0.size)))
          ((go_at_call 27; refine hU.mono ?_; rintro e w6 ⟨rfl, hb6⟩))
        have hbW := bnext hB0 hb6 hB0.size
        have hO6 := HO5.out.step hbW
        have hown6 := HOWN.out.step hbW
        have hs1 := row_keep HS1.out hbW
        have hs2 := row_keep HS2.out hbW
        have hb6' := bnext HBR.out hbW HBR.out.size
        have hz6' : w.heap.size + 2 ≤ w6.heap.size := Nat.le_trans hzr2 hbW.size
        obtain ⟨b0, b1, -, -⟩ := row_facts2 hs1
        clear hb6 hbW HO5 HOWN HS1 HS2 HBR HB0 hB0 hU
        obtain ⟨g, o, x', rfl, hg, HX', x0, x1, x2⟩ := hO6.rd.at_ (k := r'.length) (by omega)
        have hxx : x' = x := by have h1 := HX'.out; rw [HX.out] at h1; exact (Option.some.inj h1).symm
        subst hxx
        have hnI : (n5 : Int) = (r'.length : Int) + 1 := by omega
        have hwp2 : IntKind.i64.wrap ((n5 : Int) - 1) = (r'.length : Int) := by rw [hnI]; rw [IntWalk.i64_in _ (by omega)]; omega
        have k0 : (0 : Int) ≤ (r'.length : Int) := by omega
        have k1 : (r'.length : Int) < (n5 : Int) := by omega
        clear HX' HX hnI
        go_wp2_with
          (at_builtin; go_loud (
           refine wp_appS rfl (.tmp 42) (.tmp 44) rfl (w.heap.size + 2) (.slice A6 n6 c6) dn rfl (hown6.step (alloc_below _ _)) (some ⟨w6.heap.size, 0, none⟩) 1 1 [x'.o] rfl ?hr ?hby ?hbase ?_
           case hr => exact one_rdS _ _ _
           case hby => first | omega | (simp; omega)
           case hbase => first | omega | (simp; omega)
           intro A8 n8 c8 w8 hown8 hb8 hg8 hn8
           have hal8 := alloc_below w6 (.cells #[.string (bs x'.o)] 9)
           have hO8 : OwnT 35 w8 (w.heap.size + 2) (.slice (some ⟨g, o, none⟩) n5 c5) (r' ++ [x']) := own_app (hO6.step hal8) (hown6.step hal8) hg8 (by decide)
           have hs1 := row_keep2 (row_keep hs1 hal8) hb8 (by omega)
           have hs2 := row_keep2 (row_keep hs2 hal8) hb8 (by omega)
           have hb8' := (bnext hb6' hal8 hb6'.size).trans (hb8.mono (by omega))
           obtain ⟨b0, b1, f0, f1⟩ := row_facts2 hs1
           have hC := without14_any room (some ⟨g, o, none⟩) n5 c5 (r' ++ [x']) x'.o w8 hO8.rd (by omega)
           have hz8 : w.heap.size + 2 ≤ w8.heap.size := by have := hal8.size; have := hb8.size; omega))
        unfold tabV at hC
        rw [HW.out] at hC
        clear hO6 hown6 hb6' hg8 hb8 hal8 hO8 x0 x1 x2
        go_wp2_with fail
        refine hC.mono ?_
        rintro e w9 ⟨A9, n9, c9, rfl, ho9, hb9⟩
        have hown9 := hown8.step hb9
        have hs1 := row_keep hs1 hb9
        have hs2 := row_keep hs2 hb9
        have hb9' := bnext hb8' hb9 hb8'.size
        have hz9 := hb9.size
        obtain ⟨b0, b1, f0, f1⟩ := row_facts2 hs1
        have hq1 : ((w9.setCell ⟨w.heap.size, 0, none⟩ (.int .i64 room)).setCell ⟨w.heap.size, 1, none⟩ (.slice A9 n9 c9)).heap[w.heap.size]? = some (.cells #[.int .i64 room, .slice A9 n9 c9] 28 (0, 0)) := by
          rw [heap_set (heap_set hs1 _ _ _), if_pos rfl, if_pos rfl]; rfl
        have hq2 : ((w9.setCell ⟨w.heap.size, 0, none⟩ (.int .i64 room)).setCell ⟨w.heap.size, 1, none⟩ (.slice A9 n9 c9)).heap[w.heap.size + 1]? = some (.cells #[.int .i64 0, .slice none 0 0] 28 (0, 0)) := by
          rw [heap_set (heap_set hs2 _ _ _), if_neg (by omega), if_neg (by omega)]
        clear hC hown8 hb9 hb8'
        go_wp2
        obtain ⟨p1, p2, p3, p4⟩ := HREL.out
        go_roundg r'.length
        case measure => have := HE4.out; omega
        case rel => exact ⟨r', dn ++ [x'.o], A9, n9, c9, A8, n8, c8, rfl, Lib.hid ⟨p1, p2, p3, rfl, p4⟩, hq1, hq2, ((ho9.mono (by omega)).setCell (by simp) _).setCell (by simp) _, (own_setCellT (own_setCellT hown9 (by simp) _) (by simp) _), (hb9'.setCell (by simp) _).setCell (by simp) _, by simp; omega⟩
      · obtain ⟨e1, e2, e4, e5⟩ := HE.out
        have HEV : Hid (evL (room - size) ys = (rest, dn)) := Lib.hid (by
          unfold evL
          rw [e1, evR_stop (by rw [sumW_rev]; exact hc)]
          simp)
        have HWN : Hid (woL s rest = rest) := Lib.hid (woL_none fun y hy => HNS.out y (e2.subset hy))
        have hdc : decide (room - size < sumW rest) = false := by simpa using hc
        have hrl : rest.length ≤ 1000000 := by omega
        generalize sumW rest = us at *
        clear e1 e2 e4 e5 HE HIR HNS
        go_wp2
        go_region_held3 (fun w' => w'.cell? ⟨w.heap.size, 0, none⟩ = some (.int .i64 room) ∧ w'.cell? ⟨w.heap.size, 1, none⟩ = some (.slice A5 n5 c5) ∧ Below wo.heap.size wo w')
          ((first | exact ⟨b0, b1, hB0⟩ | exact held2 HB0.out.1 HB0.out.2 (bnext hB0 hb6 hB0.size)))
          ((go_at_call 27; refine hU.mono ?_; rintro e w6 ⟨rfl, hb6⟩))
        have hbW := bnext hB0 hb6 hB0.size
        have hO6 := HO5.out.step hbW
        have hown6 := HOWN.out.step hbW
        have hs1 := row_keep HS1.out hbW
        have hs2 := row_keep HS2.out hbW
        have hb6' := bnext HBR.out hbW HBR.out.size
        have hz6' : w.heap.size + 2 ≤ w6.heap.size := Nat.le_trans hzr2 hbW.size
        obtain ⟨b0, b1, -, -⟩ := row_facts2 hs1
        have hC := first14_any room A5 n5 c5 rest ⟨s, v, size⟩ w6 hO6.rd (by omega)
        unfold tabV itV at hC
        dsimp only at hC
        rw [HWN.out] at hC
        clear hb6 hbW HO5 HOWN HS1 HS2 HBR HB0 hB0 hU hO6
        go_wp2_with fail
        refine hC.mono ?_
        rintro e w7 ⟨A7, n7, c7, rfl, ho7, hb7⟩
        have hown7 := hown6.step hb7
        have hs2 := row_keep hs2 hb7
        have hb7' := bnext hb6' hb7 hb6'.size
        obtain ⟨d0, d1, g0, g1⟩ := row_facts2 hs2
        clear hC hown6 hb7 hb6'
        go_wp2
        refine bodyPost_ret (v := .tuple #[.agg #[.int .i64 room, .slice A7 n7 c7], .slice A6 n6 c6, .bool true]) (by simp [results, Try.results19, go_sem, d0, d1]) rfl ⟨A7, n7, c7, A6, n6, c6, rfl, ?_, ?_, ?_, (hb7'.setCell (by simp) _).setCell (by simp) _⟩
        · rw [HEV.out]
          exact ((ho7.setCell (by simp; omega) _).setCell (by simp; omega) _).rd
        · rw [HEV.out]
          exact OwnS.rd (B := w.heap.size + 2) (own_setCellT (own_setCellT hown7 (by simp) _) (by simp) _)
        · rw [HEV.out]
          exact fun B hB _ => ((ho7.setCell (by simp; omega) _).setCell (by simp; omega) _).mono (by omega)
end Go.Proofs.Ytepedjnmliclkaa
