/- (*Pool).Put. Conditions: at most 900000 connections with ids that differ, bounds not below 0. -/
import Derived.Test.YtepedjnmliclkaaPoolP
set_option linter.unusedVariables false
set_option linter.unusedSimpArgs false
namespace Go.Proofs.Ytepedjnmliclkaa
open Go.RowKit

theorem ofQ_at {B pb : Nat} {most each idle : Int} {G : List (Nat × Cn)} {w W : World} (hp : PoolW w B pb most each idle G) {ob : Nat} {o : List UInt8} (hr : w.heap[ob]? = some (.cells #[.string (bs o)] 9 (0, 0))) (hb : Below w.heap.size w W) {k : Nat} {x : Nat × Cn} (hx : G[k]? = some x) :
    Calls Try.prog 64 (#[.pointer (some ⟨x.1, 0, none⟩)] ++ #[.pointer (some ⟨ob, 0, none⟩)]) W fun e w' => e = .returned (.bool (x.2.o == o)) ∧ ∃ m, w' = W.drewN m :=
  ofQ_any ob x.1 x.2.o o W ((hp.step hb).node hx).1 (row1 (row_keep hr hb)).1
theorem countP_pos_find {p : Cn → Bool} {xs : List Cn} (h : 0 < xs.countP p) : ∃ x ∈ xs, p x = true := by
  rw [List.countP_pos_iff] at h
  obtain ⟨x, hx, hp⟩ := h
  exact ⟨x, hx, hp⟩
theorem find_first {p : Cn → Bool} : ∀ {xs : List Cn} {k : Nat} {x : Cn}, xs[k]? = some x → p x = true → (∀ (i : Nat) (y : Cn), i < k → xs[i]? = some y → p y = false) → xs.find? p = some x
  | [], k, x, h, _, _ => by simp at h
  | y :: r, 0, x, h, hp, _ => by
    simp at h
    subst h
    simp [List.find?_cons, hp]
  | y :: r, k + 1, x, h, hp, hb => by
    have hy := hb 0 y (by omega) rfl
    have := find_first (xs := r) (k := k) (by simpa using h) hp (fun i z hi hz => hb (i + 1) z (by omega) (by simpa using hz))
    simp [List.find?_cons, hy, this]
set_option maxRecDepth 100000 in
set_option maxHeartbeats 4000000 in
theorem put_any (B pb : Nat) (most each idle : Int) (xs : List Cn) (o : List UInt8) (id now : Int) (w : World) (hp : PoolX w B pb most each idle xs) (hn : IdsOK xs) (hl : xs.length ≤ 900000) (hmost : 0 ≤ most) (heach : 0 ≤ each) :
    Calls Try.prog 45 #[.pointer (some ⟨pb, 0, none⟩), .string (bs o), .int .i64 id, .int .i64 now] w fun e w' => ∃ A n c, e = .returned (.slice A n c) ∧ OwnI w' w.heap.size (.slice A n c) (putL most each o id now xs).2 ∧ PoolX w' B pb most each idle (putL most each o id now xs).1 ∧ Turn B 115 117 w w' := by
  have hBw := hp.lt
  have hal := alloc_below w (.cells #[.string (bs o)] 9)
  have hr0 := heap_alloc_new w (.cells #[.string (bs o)] 9)
  have hT0 := Turn.of_below (T1 := 115) (T2 := 117) hal hBw
  have hD := drop_any B pb most each idle xs id _ (hp.step hal) hn (by omega)
  have hn1 := hn.put1 o id now
  have hl1 := put1_len o id now xs
  have HPL : Hid (putL most each o id now xs = put3 most (put2 each o (put1 o id now xs))) := Lib.hid rfl
  have HP1 : Hid (put1 o id now xs = dropL id xs ++ [⟨o, id, now⟩]) := Lib.hid rfl
  have HN1 := Lib.hid hn1
  have hsz : w.heap.size < (w.alloc (.cells #[.string (bs o)] 9)).heap.size := by simp
  generalize putL most each o id now xs = R at *
  generalize put1 o id now xs = x1 at *
  generalize dropL id xs = x0 at *
  clear hp hn hn1
  go_enter Try.func45, Try.ntmps45
  go_wp2_with fail
  refine hD.mono ?_
  rintro e w2 ⟨rfl, hp2, ht2⟩
  have hr2 := row_turn ht2 hr0 (by decide) (by decide)
  have hT2 := hT0.trans ht2
  have hBw2 := hp2.lt
  have hsz2 := ht2.below.size
  obtain ⟨G, rfl, hpw⟩ := hp2
  clear hal hr0 hT0 hD ht2
  obtain ⟨bl, ol, el⟩ := adr_form pb (poolPre most each idle G.length) 3 (nds G) G.length
  have el' : adr ⟨pb, 4, none⟩ (nds G) G.length = ⟨bl, ol, none⟩ := el
  obtain ⟨⟨v1, z1⟩, z2, ⟨v2, z3⟩, z4, z5, z6, hP5, hT5⟩ := tie_in hpw hBw2 ⟨o, id, now⟩ el'
  dsimp only at z1 z2 z3 z4 z5 z6 hP5 hT5
  have c0 := (row1 hr2).1
  have c7 : w2.cell? ⟨pb, 7, none⟩ = some (.pointer (some ⟨bl, ol, none⟩)) := by
    rw [cell_of_row _ _ _ _ _ _ hpw.ring.head, ← el]
    unfold hdC
    rw [nds_len]
    rfl
  have HP5 := Lib.hid hP5
  have HT5 := Lib.hid (hT2.trans hT5)
  have HR5 := Lib.hid (row_turn hT5 hr2 (by decide) (by decide))
  have hG : (G.length : Int) ≤ 1000000 := by have h := HP1.out; have h2 := congrArg List.length h; simp at h2; omega
  have HPW := Lib.hid hpw
  clear hpw hP5 hT5 hT2 el el' hr2
  rw [show 4 + 3 = 7 from rfl] at *
  go_wp2
  go_region
  go_upto_region 7 with fail
  have hP6 := HP5.out.drew
  have hT6 := HT5.out.drew
  have hR6 : ((((w2.alloc (.cells #[.string (bs o), .int .i64 id, .int .i64 now, .pointer (some ⟨bl, ol, none⟩), .pointer (some ⟨pb, 4, none⟩)] 115)).setCell ⟨bl, ol + 4, none⟩ (.pointer (some ⟨w2.heap.size, 0, none⟩))).setCell ⟨pb, 7, none⟩ (.pointer (some ⟨w2.heap.size, 0, none⟩))).setCell ⟨pb, 3, none⟩ (.int .i64 ((G.length : Int) + 1))).drew.heap[w.heap.size]? = some (.cells #[.string (bs o)] 9 (0, 0)) := HR5.out
  clear z1 z2 z3 z4 z5 z6 HP5 HT5 HR5 HPW c0 c7
  generalize ((((w2.alloc (.cells #[.string (bs o), .int .i64 id, .int .i64 now, .pointer (some ⟨bl, ol, none⟩), .pointer (some ⟨pb, 4, none⟩)] 115)).setCell ⟨bl, ol + 4, none⟩ (.pointer (some ⟨w2.heap.size, 0, none⟩))).setCell ⟨pb, 7, none⟩ (.pointer (some ⟨w2.heap.size, 0, none⟩))).setCell ⟨pb, 3, none⟩ (.int .i64 ((G.length : Int) + 1))).drew = W5 at *
  have hX1 : (G ++ [(w2.heap.size, (⟨o, id, now⟩ : Cn))]).map (fun p => p.2) = x1 := by rw [HP1.out]; simp
  generalize G ++ [(w2.heap.size, (⟨o, id, now⟩ : Cn))] = G1 at *
  have HX1 := Lib.hid hX1
  have hlG : G1.length ≤ 1000000 := by have := congrArg List.length hX1; simp at this; omega
  clear hX1 HP1 hG
  have c1 := hP6.cells.2.1
  have hB5 : Below W5.heap.size W5 W5.drew := (Below.refl _ _).drew
  have hcnt := count_any B pb most each idle G1 64 #[.pointer (some ⟨w.heap.size, 0, none⟩)] (fun x => x.o == o) W5.drew hP6.drew hlG (fun _ _ => by kernel_rfl) (fun W k x hW hx => ofQ_at hP6 hR6 (hB5.trans hW) hx)
  rw [HX1.out] at hcnt
  have HP6 := Lib.hid hP6
  have HT6 := Lib.hid hT6
  have HR6 := Lib.hid hR6
  have HC1 : Hid (W5.cell? ⟨pb, 1, none⟩ = some (.int .i64 each)) := Lib.hid c1
  clear hP6 hT6 hR6
  go_region_held3 (fun w' => w'.cell? ⟨pb, 1, none⟩ = some (.int .i64 each) ∧ Below W5.heap.size W5 w')
    ((first | exact ⟨c1, hB5⟩ | exact ⟨((bnext hB5 hb6 hB5.size).cell (p := ⟨pb, 1, none⟩) (World.block_lt_of_cell? W5 _ HC1.out)).trans HC1.out, bnext hB5 hb6 hB5.size⟩))
    ((go_at_call 65; refine hcnt.mono ?_; rintro e w6 ⟨rfl, hb6⟩))
  have hb6' := bnext hB5 hb6 hB5.size
  have hP7 := HP6.out.step hb6'
  have hR7 := row_keep HR6.out hb6'
  have hT7 := HT6.out.grown hb6' hBw
  have HPA := Lib.hid hP7
  have HRA := Lib.hid hR7
  have HTA := Lib.hid hT7
  have hsz6 : w.heap.size < w6.heap.size := (Array.getElem?_eq_some_iff.1 hR7).1
  have hF := findFwd B pb most each idle G1 64 #[.pointer (some ⟨w.heap.size, 0, none⟩)] (fun x => x.o == o) w6 hP7 (fun _ _ => by kernel_rfl) (fun n k x hx => by
    refine (ofQ_at hP7 hR7 (below_drewN (Below.refl _ _) n) hx).mono ?_
    rintro e w' ⟨he, m, hm⟩
    exact ⟨he, n + m, by rw [hm, World.drewN_drewN]⟩)
  have HF1 : Hid (∀ (k : Nat) (x : Nat × Cn), G1[k]? = some x → (x.2.o == o) = true → (∀ (i : Nat) (y : Nat × Cn), (if false then k < i else i < k) → G1[i]? = some y → (y.2.o == o) = false) → x1.find? (fun x => x.o == o) = some x.2) := Lib.hid fun k x h1 h2 h3 => by
    rw [← HX1.out]
    exact find_first (map_get2 h1) h2 (found_bef (p := fun x => x.o == o) h3)
  have HF0 : Hid ((∀ (i : Nat) (y : Nat × Cn), G1[i]? = some y → (y.2.o == o) = false) → x1.countP (fun x => x.o == o) = 0) := Lib.hid fun h => by
    rw [List.countP_eq_zero, ← HX1.out]
    intro y hy
    have := found_mem (p := fun x => x.o == o) h y hy
    simpa using this
  have HPU : Hid (put2 each o x1 = if each < ((x1.countP fun x => x.o == o : Nat) : Int) then (match x1.find? (fun x => x.o == o) with | some f => (dropL f.id x1, [f.id]) | none => (x1, [])) else (x1, [])) := Lib.hid rfl
  have HPU2 : Hid ((put2 each o x1).1.length ≤ 900001) := Lib.hid (by have := (put2_len each o x1).1; omega)
  have HPU3 : Hid ((put2 each o x1).2.length ≤ 1) := Lib.hid (put2_len each o x1).2
  generalize put2 each o x1 = r at *
  clear hb6 hb6' hP7 hR7 hT7 hcnt c1 hB5
  generalize (x1.countP fun x => x.o == o) = cn at *
  go_upto_if 55 with fail
  go_cut [10] (fun v wx => ∃ (A : Option Addr) (n c : Nat) (G3 : List (Nat × Cn)), v = .slice A n c ∧ Hid (G3.map (·.2) = r.1) ∧ OwnI wx w.heap.size (.slice A n c) r.2 ∧ PoolW wx B pb most each idle G3 ∧ Turn B 115 117 w wx ∧ w.heap.size < wx.heap.size)
  case first =>
    by_cases hc1 : each < (cn : Int)
    · have hc2 : decide (each < (cn : Int)) = true := by simpa using hc1
      go_wp2_with fail
      refine hF.mono ?_
      rintro e w7 ⟨hfound, m, rfl⟩
      rcases hfound with ⟨k, x, hx, hpx, hbef, rfl⟩ | ⟨hall, rfl⟩
      · have HX := Lib.hid hx
        have HFX := Lib.hid (HF1.out k x hx hpx hbef)
        clear hx hpx hbef hF
        have HRR : Hid (r = (dropL x.2.id x1, [x.2.id])) := Lib.hid (by rw [HPU.out, if_pos hc1, HFX.out])
        have hRm := remove_any B pb most each idle G1 k x _ (HPA.out.drewN m) HX.out hlG
        go_wp2_with fail
        refine hRm.mono ?_
        rintro e w8 ⟨rfl, hp8, ht8⟩
        have hT8 := (HTA.out.drewN m).trans ht8
        have hsz8 : w.heap.size < w8.heap.size := Nat.lt_of_lt_of_le hsz6 ht8.below.size
        have HP8 := Lib.hid hp8
        have HT8 := Lib.hid hT8
        clear hp8 hT8 ht8 hRm
        go_wp2_with
          (at_builtin
           refine wp_appI rfl (.tmp 56) (.tmp 62) rfl w.heap.size (.slice none 0 0) [] rfl (OwnI.nil _ _) (some ⟨w8.heap.size, 0, none⟩) 1 1 [x.2.id] rfl ?hr ?hby ?hbase ?_
           case hr => exact one_rdI _ _ _
           case hby => simp
           case hbase => simp; omega
           intro A9 n9 c9 w9 hown9 hb9 hg9 hn9)
        have hx9 : Below w.heap.size w8 w9 := ((alloc_below w8 (.cells #[.int .i64 x.2.id] 3)).mono (by omega)).trans hb9
        have hP9 : PoolW w9 B pb most each idle (G1.eraseIdx k) := ⟨(HP8.out.ring.step (alloc_below w8 (.cells #[.int .i64 x.2.id] 3))).grown (OwnI.nil (w8.alloc (.cells #[.int .i64 x.2.id] 3)) w.heap.size) hg9 (by decide) (by decide), HP8.out.base⟩
        go_meet
        case rel =>
          refine ⟨A9, n9, c9, G1.eraseIdx k, rfl, Lib.hid ?_, ?_, hP9, HT8.out.app hx9 (Nat.le_refl _) hBw, Nat.lt_of_lt_of_le hsz8 hx9.size⟩
          · rw [HRR.out, map_erase2, HX1.out]
            exact erase_dropL HN1.out (by rw [← HX1.out]; exact map_get2 HX.out)
          · rw [HRR.out]; exact hown9
      · exfalso
        have := HF0.out hall
        omega
    · have hc2 : decide (each < (cn : Int)) = false := by simpa using hc1
      have HRR : Hid (r = (x1, [])) := Lib.hid (by rw [HPU.out, if_neg hc1])
      clear hF
      go_wp2_with fail
      go_meet
      case rel => exact ⟨none, 0, 0, G1, rfl, Lib.hid (by rw [HRR.out]; exact HX1.out), by rw [HRR.out]; exact OwnI.nil _ _, HPA.out, HTA.out, hsz6⟩
  case rest =>
    obtain ⟨A, n, c, G3, rfl, HG3, hown, hpw, hT, hszc⟩ := hcut
    clear hF HF1 HF0 HTA HRA HPA HX1
    have hlen3 : G3.length ≤ 1000000 := by
      have h1 := congrArg List.length HG3.out
      have h3 := HPU2.out
      rw [List.length_map] at h1
      omega
    have hr2 : r.2.length ≤ 1 := HPU3.out
    obtain ⟨m0, m1, m2, m3, -⟩ := hpw.cells
    have hh := hpw.ring.head
    have m8 : wc.cell? ⟨pb, 8, none⟩ = some (.pointer (some (adr ⟨pb, 4, none⟩ (nds G3) 1))) := by
      rw [cell_of_row _ _ _ _ _ _ hh]; rfl
    clear hh
    have HP := Lib.hid hpw
    have HT := Lib.hid hT
    have HO := Lib.hid hown
    clear hpw hT
    by_cases hm : most < (G3.length : Int)
    · have hm2 : decide (most < (G3.length : Int)) = true := by simpa using hm
      have h0 : 0 < G3.length := by omega
      have hx := List.getElem?_eq_getElem h0
      rw [adr_node (nds_get hx)] at m8
      generalize G3[0] = x at *
      have HX := Lib.hid hx
      obtain ⟨g, x⟩ := x
      dsimp only at m8
      have HRR : Hid (R = ((G3.eraseIdx 0).map (fun p => p.2), r.2 ++ [x.id])) := Lib.hid (by
        rw [HPL.out]
        unfold put3
        rw [← HG3.out, List.length_map, if_pos hm]
        have hx' := HX.out
        cases G3 with
        | nil => simp at h0
        | cons y t =>
          simp at hx'
          subst hx'
          simp)
      have hRm := fun q => remove_any B pb most each idle G3 0 (g, x) (wc.drewN q) (HP.out.drewN q) HX.out hlen3
      clear hx
      go_wp2
      go_quiet (fail)
      go_wp2_with fail
      refine (hRm _).mono ?_
      rintro e w8 ⟨rfl, hp8, ht8⟩
      have hT8 := (HT.out.drewN _).trans ht8
      have hsz8 : w.heap.size < w8.heap.size := Nat.lt_of_lt_of_le hszc ht8.below.size
      have hO8 : OwnI w8 w.heap.size (.slice A n c) r.2 := OwnI.turnP (w := wc.drewN nq) hown ht8
      have HP8 := Lib.hid hp8
      have HT8 := Lib.hid hT8
      clear hp8 hT8 ht8 hRm
      go_wp2_with
        (at_builtin
         refine wp_appI rfl (.tmp 73) (.tmp 81) rfl w.heap.size (.slice A n c) r.2 rfl (hO8.step (alloc_below _ _)) (some ⟨w8.heap.size, 0, none⟩) 1 1 [x.id] rfl ?hr ?hby ?hbase ?_
         case hr => exact one_rdI _ _ _
         case hby => omega
         case hbase => simp; omega
         intro A9 n9 c9 w9 hown9 hb9 hg9 hn9)
      have hx9 : Below w.heap.size w8 w9 := ((alloc_below w8 (.cells #[.int .i64 x.id] 3)).mono (by omega)).trans hb9
      have hP9 : PoolW w9 B pb most each idle (G3.eraseIdx 0) := ⟨(HP8.out.ring.step (alloc_below w8 (.cells #[.int .i64 x.id] 3))).grown (hO8.step (alloc_below w8 (.cells #[.int .i64 x.id] 3))) hg9 (by decide) (by decide), HP8.out.base⟩
      go_ret
      refine ⟨A9, n9, c9, rfl, ?_, ⟨G3.eraseIdx 0, ?_, hP9⟩, HT8.out.app hx9 (Nat.le_refl _) hBw⟩
      · rw [HRR.out]; exact hown9
      · rw [HRR.out]
    · have hm2 : decide (most < (G3.length : Int)) = false := by simpa using hm
      have HRR : Hid (R = r) := Lib.hid (by
        rw [HPL.out]
        unfold put3
        rw [← HG3.out, List.length_map, if_neg hm])
      go_wp2
      go_quiet (fail)
      go_wp2
      go_ret
      refine ⟨A, n, c, rfl, ?_, ⟨G3, ?_, HP.out.drewN _⟩, HT.out.drewN _⟩
      · rw [HRR.out]; exact OwnI.step hown (below_drewN (Below.refl _ _) _)
      · rw [HRR.out]; exact HG3.out
end Go.Proofs.Ytepedjnmliclkaa
