/- The bounded table: Put. Conditions: items that are well (ItemsOK), at most 10^6 of them. -/
import Derived.Test.YtepedjnmliclkaaLruK
set_option linter.unusedVariables false
set_option linter.unusedSimpArgs false
namespace Go.Proofs.Ytepedjnmliclkaa
open Go.RowKit

theorem snoc_of {α : Type} {l : List α} (h : 0 < l.length) : ∃ r x, l = r ++ [x] := by
  refine ⟨l.dropLast, l.getLast (by intro e; subst e; simp at h), (List.dropLast_concat_getLast _).symm⟩
theorem erase_last {α : Type} (r : List α) (x : α) : (r ++ [x]).eraseIdx r.length = r := by
  induction r with
  | nil => rfl
  | cons y r ih => simp [ih]
theorem turn_app {B C : Nat} {T1 T2 : TypeId} {a w w' : World} (h : Turn B T1 T2 a w) (hb : Below C w w') (hC : a.heap.size ≤ C) (hB : B ≤ C) : Turn B T1 T2 a w' := by
  refine ⟨h.below.trans (hb.mono hB), fun b cs t z hh h1 h2 => ?_⟩
  have e := h.rows b cs t z hh h1 h2
  have hlt : b < a.heap.size := (Array.getElem?_eq_some_iff.1 hh).1
  rw [hb.block b (by omega), e]
theorem evR_stop {lim : Int} {r : List Cn} (h : ¬ lim < sumW r) : evR lim r = (r, []) := by
  cases r with
  | nil => rfl
  | cons x r => unfold evR; rw [if_neg h]
set_option maxRecDepth 100000 in
set_option maxHeartbeats 4000000 in
theorem lruPut_any (B tb mb N : Nat) (room : Int) (xs : List Cn) (s : List UInt8) (v size : Int) (w : World) (h : LruX w B tb room mb N xs) (hi : ItemsOK room xs) (hroom : 0 ≤ room) (hs : s.length ≤ maxLen) (hl : xs.length ≤ 1000000) (hN : N ≤ 1000000) :
    Calls Try.prog 18 #[.pointer (some ⟨tb, 0, none⟩), .string (bs s), .int .i64 v, .int .i64 size] w fun e w' => ∃ A n c, e = .returned (.tuple #[.slice A n c, .bool (lputL room s v size xs).2.2]) ∧ OwnS w' w.heap.size (.slice A n c) (lputL room s v size xs).2.1 ∧ LruX w' B tb room mb (N + 1) (lputL room s v size xs).1 ∧ Turn B 95 97 w w' := by
  have hBw := h.lt
  by_cases hbad : size < 0 ∨ room < size
  · have hR : lputL room s v size xs = (xs, [], false) := by unfold lputL; rw [if_pos hbad]
    rw [hR]
    clear hR
    have HX : Hid (LruX w B tb room mb (N + 1) xs) := Lib.hid (by
      obtain ⟨G, h1, h2⟩ := h
      obtain ⟨D, hm, hat⟩ := h2.map
      exact ⟨G, h1, h2.ring, ⟨D, hm.mono (by omega), hat⟩, h2.base⟩)
    obtain ⟨G, hG, hw⟩ := h
    have c0 := hw.cells.1
    clear hw hG
    have hcs : size < 0 ∨ (0 ≤ size ∧ room < size) := by omega
    clear hbad hi hl hN
    rcases hcs with h1 | ⟨h1, h2⟩
    all_goals
      go_enter Try.func18, Try.ntmps18
      go_wp2
      go_ret2
      exact ⟨none, 0, 0, rfl, OwnS.nil _ _, HX.out, Turn.refl _ _ _ _⟩
  · have hR : lputL room s v size xs = (⟨s, v, size⟩ :: (evL (room - size) (woL s xs)).1, (evL (room - size) (woL s xs)).2, true) := by unfold lputL; rw [if_neg hbad]
    rw [hR]
    clear hR
    have hz0 : 0 ≤ size := by omega
    have hz1 : size ≤ room := by omega
    have hrm := hi.room
    clear hbad
    have c0 : w.cell? ⟨tb, 0, none⟩ = some (.int .i64 room) := by
      obtain ⟨G, hG, hw⟩ := h
      exact hw.cells.1
    have hD := lruDrop_any B tb mb N room xs s w h hi hs
    have hiw := hi.wo s
    have hlw : (woL s xs).length ≤ 1000000 := Nat.le_trans (List.length_filter_le _ _) hl
    have HNS : Hid (∀ x ∈ woL s xs, x.o ≠ s) := Lib.hid fun x hx => (woL_not hx).2
    have HSL := Lib.hid hs
    generalize woL s xs = ys at *
    clear h hi hs hl
    go_enter Try.func18, Try.ntmps18
    go_wp2_with fail
    refine hD.mono ?_
    rintro e w1 ⟨rfl, hx1, ht1⟩
    clear hD c0
    obtain ⟨G1, hG1, hw1⟩ := hx1
    have hsz1 := ht1.below.size
    go_wp2
    go_loopg [10] G1.length (fun r gone wr => ∃ (rest : List (Nat × Cn)) (dn : List (List UInt8)) (A : Option Addr) (n c : Nat), gone = .slice A n c ∧
      Hid (evR (room - size) ys.reverse = ((evR (room - size) (rest.map (·.2)).reverse).1, dn ++ (evR (room - size) (rest.map (·.2)).reverse).2) ∧ rest.map (·.2) <+: ys ∧ ItemsOK room (rest.map (·.2)) ∧ rest.length = r ∧ dn.length + rest.length ≤ 1000000) ∧
      OwnS wr w.heap.size (.slice A n c) dn ∧ LruW wr B tb room (sumW (rest.map (·.2))) mb N rest ∧ Turn B 95 97 w wr ∧ w.heap.size ≤ wr.heap.size)
    case atStart =>
      refine ⟨G1, [], none, 0, 0, rfl, Lib.hid ⟨?_, ?_, ?_, rfl, by have := congrArg List.length hG1; simp at this ⊢; omega⟩, OwnS.nil _ _, ?_, ht1, hsz1⟩
      · rw [hG1]; simp
      · rw [hG1]; exact List.prefix_refl _
      · rw [hG1]; exact hiw
      · rw [hG1]; exact hw1
    case round =>
      clear hw1 ht1 hsz1
      obtain ⟨rest, dn, A, n, c, rfl, HF, hown, hwr, hT, hsz⟩ := hrel
      obtain ⟨c0, c1, -, f1⟩ := hwr.cells
      obtain ⟨e1, e2, hir, e4, e5⟩ := HF.out
      have hs0 := sumW_nonneg (xs := rest.map (·.2)) fun y hy => (hir.each y hy).2
      have hs1 := hir.sum
      have hh := hwr.ring.head
      have c6 : wr.cell? ⟨tb, 6, none⟩ = some (.pointer (some (adr ⟨tb, 3, none⟩ (nds rest) rest.length))) := by
        rw [cell_of_row _ _ _ _ _ _ hh]
        unfold hdC
        rw [nds_len]
        rfl
      clear hh
      by_cases hc : room - size < sumW (rest.map (·.2))
      · have hpos : 0 < rest.length := by
          rcases Nat.eq_zero_or_pos rest.length with h0 | h0
          · rw [List.eq_nil_of_length_eq_zero h0] at hc
            simp [sumW] at hc
            omega
          · exact h0
        obtain ⟨r', x, rfl⟩ := snoc_of hpos
        have hx : (r' ++ [x])[r'.length]? = some x := by simp
        have hlen : (r' ++ [x]).length = r'.length + 1 := by simp
        rw [hlen, adr_node (nds_get hx)] at c6
        have hnd := (ring_node hwr.ring hx).1
        have hit := hir.each x.2 (by simp)
        have hsm := sumW_mem (xs := (r' ++ [x]).map (·.2)) (fun y hy => (hir.each y hy).2) (mapGet hx)
        have hse := sumW_erase (mapGet hx)
        have hme : ((r' ++ [x]).map (·.2)).eraseIdx r'.length = r'.map (·.2) := by rw [← mapErase, erase_last]
        rw [hme] at hse
        have hRm := fun W (hW : LruW W B tb room (sumW ((r' ++ [x]).map (·.2))) mb N (r' ++ [x])) => lruRemove_any B tb mb N room _ (r' ++ [x]) r'.length x W hW hx hir.keys hit.1 hs0 (by omega) hit.2 (by omega)
        have HREL : Hid (evR (room - size) ys.reverse = ((evR (room - size) (r'.map (·.2)).reverse).1, (dn ++ [x.2.o]) ++ (evR (room - size) (r'.map (·.2)).reverse).2) ∧ r'.map (·.2) <+: ys ∧ ItemsOK room (r'.map (·.2)) ∧ r'.length = r'.length ∧ (dn ++ [x.2.o]).length + r'.length ≤ 1000000) := Lib.hid (by
          refine ⟨?_, ?_, ?_, rfl, ?_⟩
          · rw [e1]
            have hrev : ((r' ++ [x]).map (·.2)).reverse = x.2 :: (r'.map (·.2)).reverse := by simp
            rw [hrev]
            have hc' : room - size < sumW (x.2 :: (r'.map (·.2)).reverse) := by rw [← hrev, sumW_rev]; exact hc
            conv => lhs; unfold evR; rw [if_pos hc']
            simp
          · refine List.IsPrefix.trans ?_ e2
            rw [List.map_append]; exact List.prefix_append _ _
          · have hk := hir.keys.erase r'.length
            rw [hme] at hk
            exact ⟨hk, fun y hy => hir.each y (by rw [List.map_append]; exact List.mem_append_left _ hy), by omega, hir.room⟩
          · rw [hlen] at e4
            simp
            omega)
        have HSE := Lib.hid hse
        have HWR := Lib.hid hwr
        have HT := Lib.hid hT
        have HE4 := Lib.hid e4
        have hdn : dn.length ≤ 1000000 := by omega
        have hdc : decide (room - size < sumW ((r' ++ [x]).map (·.2))) = true := by simpa using hc
        generalize hus : sumW ((r' ++ [x]).map (·.2)) = us at *
        clear hus hse hme hx hwr hT e1 e2 e4 e5 hir hsm hit hpos HF
        obtain ⟨g, x⟩ := x
        dsimp only at *
        have hwp1 : IntKind.i64.wrap (room - size) = room - size := IntWalk.i64_in _ (by omega)
        go_wp2
        go_quiet (fail)
        go_wp2_with
          (at_builtin
           refine wp_appS rfl (.tmp 42) (.tmp 47) rfl w.heap.size (.slice A n c) dn rfl (OwnS.step hown ((below_drewN (Below.refl _ _) nq).trans (alloc_below (wr.drewN nq) _))) (some ⟨wr.heap.size, 0, none⟩) 1 1 [x.o] rfl ?hr ?hby ?hbase ?_
           case hr => exact one_rdS _ _ _
           case hby => first | omega | (simp; omega)
           case hbase => first | omega | (simp; omega)
           intro A5 n5 c5 w5 hown5 hb5 hg5 hn5
           have hP5 : LruW w5 B tb room us mb N (r' ++ [(g, x)]) := ((HWR.out.drewN nq).step (alloc_below (wr.drewN nq) (.cells #[.string (bs x.o)] 9))).app (OwnS.step hown ((below_drewN (Below.refl _ _) nq).trans (alloc_below (wr.drewN nq) _))) hg5
           have HP5 := Lib.hid hP5
           clear hP5)
        go_wp2_with fail
        refine (hRm _ HP5.out).mono ?_
        rintro e w6 ⟨rfl, hw6, ht6⟩
        have hbx : Below w.heap.size wr w5 := (((below_drewN (Below.refl _ _) nq).trans (alloc_below (wr.drewN nq) (.cells #[.string (bs x.o)] 9))).mono hsz).trans hb5
        have hT6 : Turn B 95 97 w w6 := (turn_app HT.out hbx (Nat.le_refl _) hBw).trans ht6
        have hO6 : OwnS w6 w.heap.size (.slice A5 n5 c5) (dn ++ [x.o]) := own_turn ht6 hown5 (by decide) (by decide)
        rw [erase_last, ← HSE.out] at hw6
        have hsz6 := hT6.below.size
        obtain ⟨q1, q2, q3, -, q5⟩ := HREL.out
        have hme : r'.length < gk := by have := HE4.out; omega
        clear HREL HT HWR HP5 hown hown5 hb5 hg5 hbx ht6 hRm
        go_wp2
        go_roundg r'.length
        case measure => exact hme
        case rel => exact ⟨r', dn ++ [x.o], A5, n5, c5, rfl, Lib.hid ⟨q1, q2, q3, rfl, q5⟩, hO6, hw6, hT6, hsz6⟩
      · have hdc : decide (room - size < sumW (rest.map (·.2))) = false := by simpa using hc
        have HEV : Hid (evL (room - size) ys = (rest.map (·.2), dn)) := Lib.hid (by
          unfold evL
          rw [e1, evR_stop (by rw [sumW_rev]; exact hc)]
          simp)
        have HKS : Hid (∀ p ∈ rest, p.2.o ≠ s) := Lib.hid fun p hp => HNS.out p.2 (e2.subset (List.mem_map.2 ⟨p, hp, rfl⟩))
        have hss : sumW (⟨s, v, size⟩ :: rest.map (·.2)) = sumW (rest.map (·.2)) + size := by rw [sumW_cons]; simp; omega
        have HSS := Lib.hid hss
        have HWR := Lib.hid hwr
        have HT := Lib.hid hT
        have c2 : wr.cell? ⟨tb, 2, none⟩ = some (.map (some mb)) := hwr.cells.2.2.1
        generalize hus : sumW (rest.map (·.2)) = us at *
        have hBr : B ≤ wr.heap.size := by omega
        clear hus hss hwr hT e1 e2 e4 e5 hir HF c6 HNS
        have hwp1 : IntKind.i64.wrap (room - size) = room - size := IntWalk.i64_in _ (by omega)
        go_wp2
        go_quiet (fail)
        have hW5 : LruW ((wr.drewN nq).alloc (.cells #[.string (bs s), .int .i64 v, .int .i64 size, .pointer none, .pointer none] 95)) B tb room us mb N rest := (HWR.out.drewN nq).step (alloc_below (wr.drewN nq) _)
        have c5 := hW5.cells.2.2.1
        have HW5 := Lib.hid hW5
        obtain ⟨D, hm, hat⟩ := hW5.map
        have HAT := Lib.hid hat
        clear hW5 hat
        go_wp2_with
          (at_mapUpdate
           refine wpList_mapUpdate_in _ rfl _ _ _ 92 rfl 9 93 law Try.underlying92 ptrR mb N D rfl hm ?hN _ _ (.string s) rfl rfl (keyIs HSL.out) (.lit (.int .i64 (wr.heap.size : Int))) [] (ptrR_some wr.heap.size) ?_
           case hN => exact Nat.lt_of_le_of_lt hN (by decide)
           intro w7 hown7 hturn7)
        have hIM := hm.isMap
        have hRt := HWR.out.ring
        have hlt := hRt.lt
        obtain ⟨hb1, hb2, hb3⟩ := HWR.out.base
        have hfr : ∀ p ∈ rest, p.1 ≠ wr.heap.size := by
          intro p hp e
          obtain ⟨i, hi, rfl⟩ := List.getElem_of_mem hp
          have h1 := hRt.blk i _ (nds_get (List.getElem?_eq_getElem hi))
          have h2 := (Array.getElem?_eq_some_iff.1 h1).1
          dsimp only at h2
          omega
        have hrow7 : w7.heap[wr.heap.size]? = some (.cells #[.string (bs s), .int .i64 v, .int .i64 size, .pointer none, .pointer none] 95 (0, 0)) := by
          have h0 : ((wr.drewN nq).alloc (.cells #[.string (bs s), .int .i64 v, .int .i64 size, .pointer none, .pointer none] 95)).heap[wr.heap.size]? = some (.cells #[.string (bs s), .int .i64 v, .int .i64 size, .pointer none, .pointer none] 95 (0, 0)) := by
            simp [World.alloc, World.drewN]
          rw [mapTurned_row hturn7 h0]; exact h0
        have hF7 := front_any B tb (lruPre room us mb) rest wr.heap.size ⟨s, v, size⟩ _ _ w7 (mapTurned_ring hturn7 HW5.out.ring) rfl hb1 hb3 hBr hfr (by omega) hrow7
        have hT7 : Turn B 95 97 w w7 := (turn_app HT.out ((below_drewN (Below.refl _ _) nq).trans (alloc_below (wr.drewN nq) _)) hsz hBr).trans (mapTurned_turn hturn7 hb2 (Nat.le_trans hBr (by simp [World.alloc, World.drewN])))
        have hO7 : OwnS w7 w.heap.size (.slice A n c) dn := own_turn (mapTurned_turn (T1 := 95) (T2 := 97) hturn7 hb2 (Nat.le_trans hBr (by simp [World.alloc, World.drewN]))) (OwnS.step hown ((below_drewN (Below.refl _ _) nq).trans (alloc_below (wr.drewN nq) _))) (by decide) (by decide)
        have HB := Lib.hid (And.intro hb1 (And.intro hb2 hb3))
        have HT7 := Lib.hid hT7
        have HO7 := Lib.hid hO7
        clear hturn7 hm hRt hfr hrow7 hT7 hO7 hown hb1 hb3 HW5 c0 c1 c2 c5 f1 HT HWR
        go_wp2_with fail
        refine hF7.mono ?_
        rintro e w8 ⟨rfl, hR8, hT8⟩
        have hm8 := hT8.map hown7
        have hh8 := hR8.head
        have c1 : w8.cell? ⟨tb, 1, none⟩ = some (.int .i64 us) := by rw [cell_of_row _ _ _ _ _ _ hh8]; rfl
        have f1 : w8.frozen? ⟨tb, 1, none⟩ = false := by simp only [World.frozen?, hh8]; rfl
        have hne : mb ≠ tb := by
          rintro rfl
          obtain ⟨es, clock, hb, _⟩ := hm8
          rw [hh8] at hb; cases hb
        have HF : Hid (LruW (w8.setCell ⟨tb, 1, none⟩ (.int .i64 (us + size))) B tb room (us + size) mb (N + 1) ((wr.heap.size, ⟨s, v, size⟩) :: rest)) := Lib.hid
          ⟨hR8.setPre 1 (by simp [lruPre]) (.int .i64 (us + size)), ⟨_, hm8.setCell (a := ⟨tb, 1, none⟩) hne _, MapOK.put (G := rest) HAT.out hIM (fun s' => look_cons _ _ _)⟩, HB.out.1, HB.out.2.1, fun p hp => by
            rcases List.mem_cons.1 hp with rfl | h
            · exact hBr
            · exact HB.out.2.2 p h⟩
        have HTF : Hid (Turn B 95 97 w (w8.setCell ⟨tb, 1, none⟩ (.int .i64 (us + size)))) := Lib.hid ((HT7.out.trans hT8.turn).set _ HB.out.1 ⟨_, _, hh8, .inr rfl⟩ _)
        have HOF : Hid (OwnS (w8.setCell ⟨tb, 1, none⟩ (.int .i64 (us + size))) w.heap.size (.slice A n c) dn) := Lib.hid (own_turn (hT8.turn.set _ HB.out.1 ⟨_, _, hh8, .inr rfl⟩ _) HO7.out (by decide) (by decide))
        have hwp2 : IntKind.i64.wrap (us + size) = us + size := IntWalk.i64_in _ (by omega)
        clear hF7 hR8 hT8 hm8 hh8 hne hown7
        go_wp2
        go_ret2
        exact ⟨A, n, c, rfl, by rw [HEV.out]; exact HOF.out, ⟨(wr.heap.size, ⟨s, v, size⟩) :: rest, by rw [HEV.out]; rfl, by rw [HEV.out, HSS.out]; exact HF.out⟩, HTF.out⟩
end Go.Proofs.Ytepedjnmliclkaa
