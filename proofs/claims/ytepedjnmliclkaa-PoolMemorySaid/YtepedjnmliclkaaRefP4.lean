/- The document's pool: Put. Conditions: at most 900000 items, each id once. -/
import Derived.Test.YtepedjnmliclkaaRefP3
set_option linter.unusedVariables false
set_option linter.unusedSimpArgs false
namespace Go.Proofs.Ytepedjnmliclkaa
open Go.RowKit

set_option maxRecDepth 100000
/-- The count of an origin's items from place j on, and the id of the first of them. -/
def cntF (o : List UInt8) (l : List Cn) : Int := ((l.countP fun x => x.o == o : Nat) : Int)
def fstF (o : List UInt8) (l : List Cn) : Int := match l.find? (fun x => x.o == o) with | some x => x.id | none => 0
theorem drop_cons {l : List Cn} {k : Nat} {x : Cn} (h : l[k]? = some x) : l.drop k = x :: l.drop (k + 1) := by
  obtain ⟨hk, rfl⟩ := List.getElem?_eq_some_iff.1 h
  exact List.drop_eq_getElem_cons hk
theorem cntF_step {o : List UInt8} {l : List Cn} {k : Nat} {x : Cn} (h : l[k]? = some x) : cntF o (l.drop k) = (if (x.o == o) = true then cntF o (l.drop (k + 1)) + 1 else cntF o (l.drop (k + 1))) ∧ fstF o (l.drop k) = (if (x.o == o) = true then x.id else fstF o (l.drop (k + 1))) := by
  rw [drop_cons h]
  unfold cntF fstF
  rw [List.countP_cons, List.find?_cons]
  cases x.o == o <;> simp
theorem cntF_bd (o : List UInt8) (l : List Cn) : 0 ≤ cntF o l ∧ cntF o l ≤ l.length := by
  unfold cntF
  have := List.countP_le_length (p := fun x : Cn => x.o == o) (l := l)
  omega
theorem put2_eq (each : Int) (o : List UInt8) (x1 : List Cn) (he : 0 ≤ each) : put2 each o x1 = if each < cntF o x1 then (dropL (fstF o x1) x1, [fstF o x1]) else (x1, []) := by
  unfold put2 cntF fstF
  split
  · rename_i h
    have hp : 0 < x1.countP fun x => x.o == o := by omega
    obtain ⟨y, hy, hyo⟩ := countP_pos_find hp
    cases hf : x1.find? (fun x => x.o == o) with
    | none => rw [List.find?_eq_none] at hf; exact absurd hyo (hf y hy)
    | some f => rfl
  · rfl
def hdId (r : List Cn) : Int := match r with | x :: _ => x.id | [] => 0
theorem put3_eq {most : Int} {r : List Cn} {g : List Int} (hn : IdsOK r) (hm : 0 ≤ most) : put3 most (r, g) = if most < (r.length : Int) then (dropL (hdId r) r, g ++ [hdId r]) else (r, g) := by
  unfold put3
  dsimp only
  split
  · rename_i h
    cases r with
    | nil => simp at h; omega
    | cons x t =>
      have := erase_dropL (k := 0) (x := x) hn rfl
      simp at this
      unfold hdId
      dsimp only
      rw [← this]
  · rfl
theorem set4_at {w : World} {b : Nat} {u0 u1 u2 u3 : Value} {t : TypeId} (h : w.heap[b]? = some (.cells #[u0, u1, u2, u3] t (0, 0))) (v0 v1 v2 v3 : Value) : ((((w.setCell ⟨b, 0, none⟩ v0).setCell ⟨b, 1, none⟩ v1).setCell ⟨b, 2, none⟩ v2).setCell ⟨b, 3, none⟩ v3).heap[b]? = some (.cells #[v0, v1, v2, v3] t (0, 0)) := by
  have h1 := heap_set h b 0 v0
  rw [if_pos rfl] at h1
  have h2 := heap_set h1 b 1 v1
  rw [if_pos rfl] at h2
  have h3 := heap_set h2 b 2 v2
  rw [if_pos rfl] at h3
  have h4 := heap_set h3 b 3 v3
  rw [if_pos rfl] at h4
  exact h4
theorem row_box {w w' : World} {b : Nat} {cs : Array Value} {t : TypeId} (h : w.heap[b]? = some (.cells cs t (0, 0))) (hb : Below w.heap.size w w') : w'.heap[b]? = some (.cells cs t (0, 0)) := row_keep h hb
set_option maxHeartbeats 4000000 in
theorem put23_any (m e i : Int) (A : Option Addr) (n c : Nat) (l : List Cn) (o : List UInt8) (id now : Int) (w : World) (hl : RdT w A n l) (hn : n ≤ 900000) (hi : IdsOK l) (hm : 0 ≤ m) (he : 0 ≤ e) :
    Calls Try.prog 48 #[poolV m e i A n c, .string (bs o), .int .i64 id, .int .i64 now] w fun x w' => ∃ A' n' c' G gn gc, x = .returned (.tuple #[poolV m e i A' n' c', .slice G gn gc]) ∧ OwnT 128 w' w.heap.size (.slice A' n' c') (putL m e o id now l).1 ∧ OwnI w' w.heap.size (.slice G gn gc) (putL m e o id now l).2 ∧ Below w.heap.size w w' := by
  unfold poolV
  have hal1 := alloc_below w (.cells (pCells m e i A n c) 76)
  have hr1 := heap_alloc_new w (.cells (pCells m e i A n c) 76)
  have hl1 := hl.step hal1
  generalize hw1 : w.alloc (.cells (pCells m e i A n c) 76) = w1 at *
  have hz1 : w1.heap.size = w.heap.size + 1 := by rw [← hw1]; simp
  have hal2 := alloc_below w1 (.cells (pCells 0 0 0 none 0 0) 76)
  have hr2 := heap_alloc_new w1 (.cells (pCells 0 0 0 none 0 0) 76)
  have hb0 := bnext hal1 hal2 hal1.size
  have hl2 := hl1.step hal2
  have hr1a := row_keep hr1 hal2
  rw [hz1] at hr2
  generalize hw2 : w1.alloc (.cells (pCells 0 0 0 none 0 0) 76) = wx at *
  have hsz : wx.heap.size = w.heap.size + 2 := by rw [← hw2]; simp [hz1]
  have hln := hl.1
  have hC := without23_any m e i A n c l id wx hl2 (by omega)
  have HP2 := Lib.hid (put2_eq e o (put1 o id now l) he)
  have HP3 : Hid (putL m e o id now l = put3 m (put2 e o (put1 o id now l))) := Lib.hid rfl
  have HI1 := Lib.hid (hi.put1 o id now)
  have HI2 := Lib.hid ((hi.put1 o id now).put2 e o)
  have HL1 := Lib.hid (put1_len o id now l)
  have H1 : Hid (put1 o id now l = dropL id l ++ [⟨o, id, now⟩]) := Lib.hid rfl
  generalize putL m e o id now l = R at *
  generalize put1 o id now l = x1 at *
  have hdl : (dropL id l).length ≤ 900000 := Nat.le_trans (dropL_len _ _) (by omega)
  generalize dropL id l = x0 at *
  obtain ⟨⟨c0, c1, c2, c3⟩, f0, f1, f2, f3⟩ := row_facts4p hr1a
  unfold poolV at hC
  clear hal1 hal2 hr1 hl hl1 hi hl2
  go_enter Try.func48, Try.ntmps48
  go_upto_region 1 with fail
  clear hw1 hw2
  go_wp2_with fail
  refine hC.mono ?_
  rintro e' w4 ⟨A4, n4, c4, rfl, ho4, hb4⟩
  have hrA := row_keep hr1a hb4
  have hrB := row_keep hr2 hb4
  have hbA := bnext hb0 hb4 hb0.size
  have hz4 := hb4.size
  obtain ⟨⟨c0, c1, c2, c3⟩, f0, f1, f2, f3⟩ := row_facts4p hrA
  clear hC hb4 hr1a hr2 hb0
  have hs1 := set4_at hrA (.int .i64 m) (.int .i64 e) (.int .i64 i) (.slice A4 n4 c4)
  have hs2 := set4_other hrB (g := w.heap.size) (by omega) (.int .i64 m) (.int .i64 e) (.int .i64 i) (.slice A4 n4 c4)
  have hO4 : OwnT 128 ((((w4.setCell ⟨w.heap.size, 0, none⟩ (.int .i64 m)).setCell ⟨w.heap.size, 1, none⟩ (.int .i64 e)).setCell ⟨w.heap.size, 2, none⟩ (.int .i64 i)).setCell ⟨w.heap.size, 3, none⟩ (.slice A4 n4 c4)) wx.heap.size (.slice A4 n4 c4) x0 := (((ho4.setCell (by simp; omega) _).setCell (by simp; omega) _).setCell (by simp; omega) _).setCell (by simp; omega) _
  have hbB : Below w.heap.size w ((((w4.setCell ⟨w.heap.size, 0, none⟩ (.int .i64 m)).setCell ⟨w.heap.size, 1, none⟩ (.int .i64 e)).setCell ⟨w.heap.size, 2, none⟩ (.int .i64 i)).setCell ⟨w.heap.size, 3, none⟩ (.slice A4 n4 c4)) := (((hbA.setCell (by simp) _).setCell (by simp) _).setCell (by simp) _).setCell (by simp) _
  have hz5 : w.heap.size + 2 ≤ ((((w4.setCell ⟨w.heap.size, 0, none⟩ (.int .i64 m)).setCell ⟨w.heap.size, 1, none⟩ (.int .i64 e)).setCell ⟨w.heap.size, 2, none⟩ (.int .i64 i)).setCell ⟨w.heap.size, 3, none⟩ (.slice A4 n4 c4)).heap.size := by simp; omega
  go_upto_region 2 with fail
  generalize ((((w4.setCell ⟨w.heap.size, 0, none⟩ (.int .i64 m)).setCell ⟨w.heap.size, 1, none⟩ (.int .i64 e)).setCell ⟨w.heap.size, 2, none⟩ (.int .i64 i)).setCell ⟨w.heap.size, 3, none⟩ (.slice A4 n4 c4)) = w5 at *
  clear hrA hrB hbA ho4 c0 c1 c2 c3 f0 f1 f2 f3
  have hal := alloc_below w5 (.cells #[] 128)
  have hit := OwnT.made 128 w5
  have hr4 := (hO4.step hal).rd
  have hs1' := row_keep hs1 hal
  have hs2' := row_keep hs2 hal
  have hbC := bnext hbB hal hbB.size
  have hz6 := hal.size
  obtain ⟨⟨c0, c1, c2, c3⟩, -⟩ := row_facts4p hs1'
  have hn4 := hO4.rd.1
  clear hal hbB hs1 hs2
  go_upto_region 3 with fail
  generalize hw6 : w5.alloc (.cells #[] 128) = w6 at *
  clear hw6
  generalize w5.heap.size = g5 at *
  go_upto_region 4 with
    (at_builtin; go_loud (
     refine wp_appT Try.underlying74 it23_info rfl (.tmp 19) (.tmp 21) rfl g5 (.slice (some ⟨g5, 0, none⟩) 0 0) [] rfl hit A4 n4 c4 x0 rfl hr4 ?hby ?hbase ?_
     case hby => simp; omega
     case hbase => omega
     intro A7 n7 c7 w7 hown7 hb7 hg7 hn7))
  rw [List.nil_append] at hown7
  have hs1 := row_keep2 hs1' hb7 (by omega)
  have hs2 := row_keep2 hs2' hb7 (by omega)
  have hbD := hbC.trans (hb7.mono (by omega))
  have hz7 := hb7.size
  clear hit hr4 hs1' hs2' hbC hb7 hg7 hn7 c0 c1 c2 c3
  have hal := alloc_below w7 (.cells #[.string (bs o), .int .i64 id, .int .i64 now] 128)
  have ho8 := hown7.step hal
  have hr8 := one_rdT w7 ⟨o, id, now⟩ 128
  have hs1' := row_keep hs1 hal
  have hs2' := row_keep hs2 hal
  have hbE := bnext hbD hal hbD.size
  have hz8 := hal.size
  clear hal hs1 hs2 hown7 hbD
  have hx0n : n4 ≤ 900000 := by omega
  go_upto_region 5 with
    (at_builtin; go_loud (
     refine wp_appT Try.underlying74 it23_info rfl (.tmp 23) (.tmp 28) rfl g5 (.slice A7 n7 c7) x0 rfl ho8 (some ⟨w7.heap.size, 0, none⟩) 1 1 [⟨o, id, now⟩] rfl hr8 ?hby2 ?hbase2 ?_
     case hby2 => first | omega | (simp; done) | (simp; omega)
     case hbase2 => first | omega | (simp; done) | (simp; omega)
     intro A8 n8 c8 w8 hown8 hb8 hg8 hn8
     have hq1 := row_keep2 hs1' hb8 (by omega)
     obtain ⟨⟨c0, c1, c2, c3⟩, f0, f1, f2, f3⟩ := row_facts4p hq1))
  have hq2 := row_keep2 hs2' hb8 (by omega)
  have hbF := hbE.trans (hb8.mono (by omega))
  have hz9 := hb8.size
  rw [← H1.out] at hown8
  have hn8' := hown8.rd.1
  have ho9 : OwnT 128 (w8.setCell ⟨w.heap.size, 3, none⟩ (.slice A8 n8 c8)) g5 (.slice A8 n8 c8) x1 := hown8.setCell (by simp; omega) _
  have hv1 : (w8.setCell ⟨w.heap.size, 3, none⟩ (.slice A8 n8 c8)).heap[w.heap.size]? = some (.cells (pCells m e i A8 n8 c8) 76 (0, 0)) := by
    rw [heap_set hq1, if_pos rfl]; rfl
  have hv2 : (w8.setCell ⟨w.heap.size, 3, none⟩ (.slice A8 n8 c8)).heap[w.heap.size + 1]? = some (.cells (pCells 0 0 0 none 0 0) 76 (0, 0)) := by
    rw [heap_set hq2, if_neg (by omega)]
  have hbG : Below w.heap.size w (w8.setCell ⟨w.heap.size, 3, none⟩ (.slice A8 n8 c8)) := hbF.setCell (by simp) _
  have hzA : w.heap.size + 2 ≤ (w8.setCell ⟨w.heap.size, 3, none⟩ (.slice A8 n8 c8)).heap.size := by simp; omega
  clear ho8 hr8 hs1' hs2' hbE hb8 hg8 hn8 hq1 hq2 hbF hown8 c0 c1 c2 c3 f0 f1 f2 f3
  generalize hwA : w8.setCell ⟨w.heap.size, 3, none⟩ (.slice A8 n8 c8) = wA at *
  clear hwA
  have hal := alloc_below wA (.cells #[] 3)
  have hgo := (OwnI.made wA).mono (show w.heap.size + 2 ≤ _ from hzA)
  have hoB := (ho9.step hal).mono (show w.heap.size + 2 ≤ g5 by omega)
  have hw1 := row_keep hv1 hal
  have hw2 := row_keep hv2 hal
  have hbH := bnext hbG hal hbG.size
  have hzB : w.heap.size + 2 ≤ (wA.alloc (.cells #[] 3)).heap.size := Nat.le_trans hzA hal.size
  clear hal ho9 hv1 hv2 hbG hz9 hz8 hz7 hz6 hz5 hz4
  go_upto_region 6 with fail
  generalize wA.alloc (.cells #[] 3) = wB at *
  generalize wA.heap.size = gg at *
  have hx1n : n8 ≤ 900001 := by have := HL1.out; omega
  have HIN : Hid (cntF o (x1.drop n8) = 0 ∧ fstF o (x1.drop n8) = 0) := Lib.hid (by rw [List.drop_of_length_le (by omega)]; exact ⟨rfl, rfl⟩)
  have hwn : IntKind.i64.wrap ((n8 : Int) - 1) = (n8 : Int) - 1 := IntWalk.i64_in _ (by omega)
  obtain ⟨⟨c0, c1, c2, c3⟩, -⟩ := row_facts4p hw1
  have HN8 := Lib.hid hn8'
  clear hn8'
  go_wp2
  go_loopg [12, 13, 14] n8 (fun r cn fs t wr => ∃ j : Nat, j ≤ n8 ∧ r = j ∧ t = .int .i64 ((j : Int) - 1) ∧ cn = .int .i64 (cntF o (x1.drop j)) ∧ fs = .int .i64 (fstF o (x1.drop j)) ∧ wr = wB)
  case atStart => exact ⟨n8, by omega, rfl, rfl, by rw [HIN.out.1], by rw [HIN.out.2], rfl⟩
  case round =>
    obtain ⟨j, hj, hr, rfl, rfl, rfl, rfl⟩ := hrel
    obtain ⟨wB, rfl⟩ : ∃ wB, wB = wr := ⟨_, rfl⟩
    rcases Nat.eq_zero_or_pos j with rfl | hjp
    · have hneg : (((0 : Nat) : Int) - 1) = -1 := by omega
      rw [hneg]
      rw [List.drop_zero]
      have hcb := cntF_bd o x1
      have HN := HN8.out
      have hx1l : x1.length ≤ 900001 := by omega
      clear hneg HIN hwn
      generalize hcn : cntF o x1 = cn at *
      generalize hfs : fstF o x1 = fs at *
      have HD := without23_any m e i A8 n8 c8 x1 fs
      unfold poolV at HD
      go_upto_if 59 with fail
      go_cut [11] (fun v wc => ∃ (A9 : Option Addr) (n9 c9 : Nat) (G : Option Addr) (gn gc : Nat), v = .slice G gn gc ∧ wc.heap[w.heap.size]? = some (.cells (pCells m e i A9 n9 c9) 76 (0, 0)) ∧ wc.heap[w.heap.size + 1]? = some (.cells (pCells 0 0 0 none 0 0) 76 (0, 0)) ∧ OwnT 128 wc (w.heap.size + 2) (.slice A9 n9 c9) (put2 e o x1).1 ∧ OwnI wc (w.heap.size + 2) (.slice G gn gc) (put2 e o x1).2 ∧ Below w.heap.size w wc ∧ w.heap.size + 2 ≤ wc.heap.size)
      case first =>
        by_cases hec : e < cn
        · have HP : Hid (put2 e o x1 = (dropL fs x1, [fs])) := Lib.hid (by rw [HP2.out, if_pos hec])
          have hal := alloc_below wB (.cells #[.int .i64 fs] 3)
          have hgo2 := hgo.step hal
          have hi := one_rdI wB fs 3
          have hoC := hoB.step hal
          have hu1 := row_keep hw1 hal
          have hu2 := row_keep hw2 hal
          have hbI := bnext hbH hal hbH.size
          have hzC := hal.size
          have HD1 := Lib.hid fun (w9 : World) (h : RdT w9 A8 n8 x1) => HD w9 h (by omega)
          clear HD hal hw1 hw2 hoB hbH HP2 HP3 HI1 HI2 HL1 H1 hcn hfs
          go_upto_region 16 with
            (at_builtin; go_loud (
             refine wp_appI rfl (.tmp 60) (.tmp 62) rfl (w.heap.size + 2) (.slice (some ⟨gg, 0, none⟩) 0 0) [] rfl hgo2 (some ⟨wB.heap.size, 0, none⟩) 1 1 [fs] rfl hi ?hby3 ?hbase3 ?_
             case hby3 => first | omega | (simp; done) | (simp; omega)
             case hbase3 => first | omega | (simp; done) | (simp; omega)
             intro A10 n10 c10 w10 hown10 hb10 hg10 hn10
             have hoD : OwnT 128 w10 (w.heap.size + 2) (.slice A8 n8 c8) x1 := own_app hoC hgo2 hg10 (by decide)
             have hv1 := row_keep2 hu1 hb10 (by omega)
             obtain ⟨⟨c0, c1, c2, c3⟩, f0, f1, f2, f3⟩ := row_facts4p hv1))
          have hv2 := row_keep2 hu2 hb10 (by omega)
          have hbJ := hbI.trans (hb10.mono (by omega))
          have hzD := hb10.size
          rw [List.nil_append] at hown10
          clear hgo2 hi hoC hu1 hu2 hbI hb10 hg10 hn10
          go_wp2_with fail
          refine (HD1.out w10 hoD.rd).mono ?_
          rintro e' w11 ⟨A11, n11, c11, rfl, ho11, hb11⟩
          have hx1 := row_keep hv1 hb11
          have hx2 := row_keep hv2 hb11
          have hg11 := hown10.step hb11
          have hbK := bnext hbJ hb11 hbJ.size
          have hzE := hb11.size
          obtain ⟨⟨c0, c1, c2, c3⟩, f0, f1, f2, f3⟩ := row_facts4p hx1
          have HR : Hid (∃ (A9 : Option Addr) (n9 c9 : Nat) (G : Option Addr) (gn gc : Nat), Value.slice A10 n10 c10 = .slice G gn gc ∧ ((((w11.setCell ⟨w.heap.size, 0, none⟩ (.int .i64 m)).setCell ⟨w.heap.size, 1, none⟩ (.int .i64 e)).setCell ⟨w.heap.size, 2, none⟩ (.int .i64 i)).setCell ⟨w.heap.size, 3, none⟩ (.slice A11 n11 c11)).heap[w.heap.size]? = some (.cells (pCells m e i A9 n9 c9) 76 (0, 0)) ∧ ((((w11.setCell ⟨w.heap.size, 0, none⟩ (.int .i64 m)).setCell ⟨w.heap.size, 1, none⟩ (.int .i64 e)).setCell ⟨w.heap.size, 2, none⟩ (.int .i64 i)).setCell ⟨w.heap.size, 3, none⟩ (.slice A11 n11 c11)).heap[w.heap.size + 1]? = some (.cells (pCells 0 0 0 none 0 0) 76 (0, 0)) ∧ OwnT 128 ((((w11.setCell ⟨w.heap.size, 0, none⟩ (.int .i64 m)).setCell ⟨w.heap.size, 1, none⟩ (.int .i64 e)).setCell ⟨w.heap.size, 2, none⟩ (.int .i64 i)).setCell ⟨w.heap.size, 3, none⟩ (.slice A11 n11 c11)) (w.heap.size + 2) (.slice A9 n9 c9) (put2 e o x1).1 ∧ OwnI ((((w11.setCell ⟨w.heap.size, 0, none⟩ (.int .i64 m)).setCell ⟨w.heap.size, 1, none⟩ (.int .i64 e)).setCell ⟨w.heap.size, 2, none⟩ (.int .i64 i)).setCell ⟨w.heap.size, 3, none⟩ (.slice A11 n11 c11)) (w.heap.size + 2) (.slice G gn gc) (put2 e o x1).2 ∧ Below w.heap.size w ((((w11.setCell ⟨w.heap.size, 0, none⟩ (.int .i64 m)).setCell ⟨w.heap.size, 1, none⟩ (.int .i64 e)).setCell ⟨w.heap.size, 2, none⟩ (.int .i64 i)).setCell ⟨w.heap.size, 3, none⟩ (.slice A11 n11 c11)) ∧ w.heap.size + 2 ≤ ((((w11.setCell ⟨w.heap.size, 0, none⟩ (.int .i64 m)).setCell ⟨w.heap.size, 1, none⟩ (.int .i64 e)).setCell ⟨w.heap.size, 2, none⟩ (.int .i64 i)).setCell ⟨w.heap.size, 3, none⟩ (.slice A11 n11 c11)).heap.size) := Lib.hid
            ⟨A11, n11, c11, A10, n10, c10, rfl, set4_at hx1 _ _ _ _, set4_other hx2 (by omega) _ _ _ _, by rw [HP.out]; exact ((((ho11.setCell (by simp; omega) _).setCell (by simp; omega) _).setCell (by simp; omega) _).setCell (by simp; omega) _).mono (by omega), by rw [HP.out]; exact own_setCellT (own_setCellT (own_setCellT (own_setCellT hg11 (by simp) _) (by simp) _) (by simp) _) (by simp) _, (((hbK.setCell (by simp) _).setCell (by simp) _).setCell (by simp) _).setCell (by simp) _, by simp; omega⟩
          clear HD1 hoD hv1 hv2 hown10 hbJ hx1 hx2 hg11 hbK ho11 hb11
          go_wp2
          go_meet
          case rel => exact HR.out
        · have HP : Hid (put2 e o x1 = (x1, [])) := Lib.hid (by rw [HP2.out, if_neg hec])
          clear HD HP2 HP3 HI1 HI2 HL1 H1 hcn hfs
          go_wp2
          go_meet
          case rel => exact ⟨A8, n8, c8, some ⟨gg, 0, none⟩, 0, 0, rfl, hw1, hw2, by rw [HP.out]; exact hoB, by rw [HP.out]; exact hgo, hbH, hzB⟩
      case rest =>
        obtain ⟨A9, n9, c9, G, gn, gc, rfl, hy1, hy2, hoy, hgy, hby, hzy⟩ := hcut
        clear HD HP2 hw1 hw2 hoB hgo hbH hzB c0 c1 c2 c3 hcn hfs HL1 H1 HI1
        have H3 := Lib.hid (put3_eq (most := m) (g := (put2 e o x1).2) HI2.out hm)
        have hl2 := put2_len e o x1
        generalize hp2 : put2 e o x1 = p2 at *
        obtain ⟨y, yg⟩ := p2
        dsimp only at *
        have hny := hoy.rd.1
        have hng := hgy.rd.1
        obtain ⟨⟨c0, c1, c2, c3⟩, f0, f1, f2, f3⟩ := row_facts4p hy1
        obtain ⟨⟨d0, d1, d2, d3⟩, g0, g1, g2, g3⟩ := row_facts4p hy2
        have hyl : y.length ≤ 900001 := by omega
        have hygl : yg.length ≤ 1 := by omega
        have H3' : Hid (R = if m < (y.length : Int) then (dropL (hdId y) y, yg ++ [hdId y]) else (y, yg)) := Lib.hid (by rw [HP3.out]; exact H3.out)
        have HNY := Lib.hid hny
        clear H3 HP3 HI2 hl2 hp2 hny hng
        by_cases hmy : m < (y.length : Int)
        · obtain ⟨z, yt, rfl⟩ : ∃ z yt, y = z :: yt := by
            cases y with
            | nil => simp at hmy; omega
            | cons z yt => exact ⟨z, yt, rfl⟩
          have HR : Hid (R = (dropL z.id (z :: yt), yg ++ [z.id])) := Lib.hid (by rw [H3'.out, if_pos hmy]; rfl)
          have hmn : m < (n9 : Int) := by have := HNY.out; omega
          obtain ⟨gz, oz, z', rfl, hgz, HZ, z0, z1, z2⟩ := hoy.rd.at_ (k := 0) (by have := HNY.out; simp at this; omega)
          obtain rfl : z' = z := by have := HZ.out; simpa using this.symm
          have z1' : wc.cell? ⟨gz, oz + 1, none⟩ = some (.int .i64 z'.id) := by simpa using z1
          have h09 : (0 : Int) < (n9 : Int) := by omega
          have hal := alloc_below wc (.cells #[.int .i64 z'.id] 3)
          have hgo2 := hgy.step hal
          have hi := one_rdI wc z'.id 3
          have hoC := hoy.step hal
          have hu1 := row_keep hy1 hal
          have hu2 := row_keep hy2 hal
          have hbI := bnext hby hal hby.size
          have hzC := hal.size
          have hn9 : n9 ≤ 1000000 := by have := HNY.out; omega
          clear H3' hmy HZ z0 z1 z2 hal hy1 hy2 hoy hgy hby
          go_upto_region 19 with
            (at_builtin; go_loud (
             refine wp_appI rfl (.tmp 73) (.tmp 79) rfl (w.heap.size + 2) (.slice G gn gc) yg rfl hgo2 (some ⟨wc.heap.size, 0, none⟩) 1 1 [z'.id] rfl hi ?hby4 ?hbase4 ?_
             case hby4 => first | omega | (simp; done) | (simp; omega)
             case hbase4 => first | omega | (simp; done) | (simp; omega)
             intro A10 n10 c10 w10 hown10 hb10 hg10 hn10))
          have hoD : OwnT 128 w10 (w.heap.size + 2) (.slice (some ⟨gz, oz, none⟩) n9 c9) (z' :: yt) := own_app hoC hgo2 hg10 (by decide)
          have hv1 := row_keep2 hu1 hb10 (by omega)
          have hv2 := row_keep2 hu2 hb10 (by omega)
          have hbJ := hbI.trans (hb10.mono (by omega))
          have hzD := hb10.size
          clear hgo2 hi hoC hu1 hu2 hbI hb10 hg10 hn10 c0 c1 c2 c3 f0 f1 f2 f3 d0 d1 d2 d3 g0 g1 g2 g3 z1'
          obtain ⟨⟨c0, c1, c2, c3⟩, f0, f1, f2, f3⟩ := row_facts4p hv1
          obtain ⟨gz2, oz2, z2, ez, hgz2, HZ2, z0, z1, z2_⟩ := hoD.rd.at_ (k := 0) (by omega)
          cases ez
          obtain rfl : z2 = z' := by have := HZ2.out; simpa using this.symm
          have z1' : w10.cell? ⟨gz, oz + 1, none⟩ = some (.int .i64 z2.id) := by simpa using z1
          have hE := without23_any m e i (some ⟨gz, oz, none⟩) n9 c9 (z2 :: yt) z2.id w10.drew ((OwnT.step hoD (Below.refl _ _).drew).rd) hn9
          unfold poolV at hE
          have HOWN10 := Lib.hid hown10
          have HV1 := Lib.hid hv1
          have HV2 := Lib.hid hv2
          have HBJ := Lib.hid hbJ
          clear HZ2 z0 z1 z2_ hoD hv1 hv2 hown10 hbJ
          have hn0 : 0 < n9 := by omega
          go_wp2
          go_still_tail 6, (by kernel_rfl)
          change wpList _ _ _ _ _ w10.drew
          go_wp2_with fail
          refine hE.mono ?_
          rintro e' w11 ⟨A11, n11, c11, rfl, ho11, hb11⟩
          have hx1 := row_keep (w := w10.drew) HV1.out hb11
          have hx2 := row_keep (w := w10.drew) HV2.out hb11
          have hg11 : OwnI w11 (w.heap.size + 2) (.slice A10 n10 c10) (yg ++ [z2.id]) := own_step (own_step HOWN10.out (Below.refl _ _).drew) hb11
          have hbK := HBJ.out.drew.trans (hb11.mono HBJ.out.drew.size)
          have hzE : w10.heap.size ≤ w11.heap.size := by have := hb11.size; simpa using this
          obtain ⟨⟨c0, c1, c2, c3⟩, f0, f1, f2, f3⟩ := row_facts4p hx1
          have hq2 := set4_other hx2 (g := w.heap.size) (by omega) (.int .i64 m) (.int .i64 e) (.int .i64 i) (.slice A11 n11 c11)
          have hq1 := set4_at hx1 (.int .i64 m) (.int .i64 e) (.int .i64 i) (.slice A11 n11 c11)
          have hoE : OwnT 128 ((((w11.setCell ⟨w.heap.size, 0, none⟩ (.int .i64 m)).setCell ⟨w.heap.size, 1, none⟩ (.int .i64 e)).setCell ⟨w.heap.size, 2, none⟩ (.int .i64 i)).setCell ⟨w.heap.size, 3, none⟩ (.slice A11 n11 c11)) (w.heap.size + 2) (.slice A11 n11 c11) (dropL z2.id (z2 :: yt)) := ((((ho11.setCell (by simp; omega) _).setCell (by simp; omega) _).setCell (by simp; omega) _).setCell (by simp; omega) _).mono (by simp; omega)
          have hgE : OwnI ((((w11.setCell ⟨w.heap.size, 0, none⟩ (.int .i64 m)).setCell ⟨w.heap.size, 1, none⟩ (.int .i64 e)).setCell ⟨w.heap.size, 2, none⟩ (.int .i64 i)).setCell ⟨w.heap.size, 3, none⟩ (.slice A11 n11 c11)) (w.heap.size + 2) (.slice A10 n10 c10) (yg ++ [z2.id]) := own_setCellT (own_setCellT (own_setCellT (own_setCellT hg11 (by simp) _) (by simp) _) (by simp) _) (by simp) _
          have hbL : Below w.heap.size w ((((w11.setCell ⟨w.heap.size, 0, none⟩ (.int .i64 m)).setCell ⟨w.heap.size, 1, none⟩ (.int .i64 e)).setCell ⟨w.heap.size, 2, none⟩ (.int .i64 i)).setCell ⟨w.heap.size, 3, none⟩ (.slice A11 n11 c11)) := (((hbK.setCell (by simp) _).setCell (by simp) _).setCell (by simp) _).setCell (by simp) _
          clear HOWN10 HV1 HV2 HBJ hE hx1 hx2 hg11 hbK ho11 hb11
          go_upto_region 20 with fail
          generalize ((((w11.setCell ⟨w.heap.size, 0, none⟩ (.int .i64 m)).setCell ⟨w.heap.size, 1, none⟩ (.int .i64 e)).setCell ⟨w.heap.size, 2, none⟩ (.int .i64 i)).setCell ⟨w.heap.size, 3, none⟩ (.slice A11 n11 c11)) = w12 at *
          clear c0 c1 c2 c3 f0 f1 f2 f3
          obtain ⟨⟨c0, c1, c2, c3⟩, f0, f1, f2, f3⟩ := row_facts4p hq1
          obtain ⟨⟨d0, d1, d2, d3⟩, g0, g1, g2, g3⟩ := row_facts4p hq2
          clear hq1 hq2
          go_wp2
          refine bodyPost_ret (v := .tuple #[.agg #[.int .i64 m, .int .i64 e, .int .i64 i, .slice A11 n11 c11], .slice A10 n10 c10]) (by simp [results, Try.results48, go_sem, d0, d1, d2, d3]) rfl ⟨A11, n11, c11, A10, n10, c10, rfl, ?_, ?_, (((hbL.setCell (by simp) _).setCell (by simp) _).setCell (by simp) _).setCell (by simp) _⟩
          · rw [HR.out]
            exact ((((hoE.setCell (by simp) _).setCell (by simp) _).setCell (by simp) _).setCell (by simp) _).mono (by omega)
          · rw [HR.out]
            exact own_mono (own_setCellT (own_setCellT (own_setCellT (own_setCellT hgE (by simp) _) (by simp) _) (by simp) _) (by simp) _) (by omega)
        · have HR : Hid (R = (y, yg)) := Lib.hid (by rw [H3'.out, if_neg hmy])
          have hmn : ¬ m < (n9 : Int) := by have := HNY.out; omega
          clear H3' hmy hy1 hy2
          go_wp2
          refine bodyPost_ret (v := .tuple #[.agg #[.int .i64 m, .int .i64 e, .int .i64 i, .slice A9 n9 c9], .slice G gn gc]) (by simp [results, Try.results48, go_sem, d0, d1, d2, d3]) rfl ⟨A9, n9, c9, G, gn, gc, rfl, ?_, ?_, (((hby.setCell (by simp) _).setCell (by simp) _).setCell (by simp) _).setCell (by simp) _⟩
          · rw [HR.out]
            exact ((((hoy.setCell (by simp) _).setCell (by simp) _).setCell (by simp) _).setCell (by simp) _).mono (by omega)
          · rw [HR.out]
            exact own_mono (own_setCellT (own_setCellT (own_setCellT (own_setCellT hgy (by simp) _) (by simp) _) (by simp) _) (by simp) _) (by omega)
    · obtain ⟨k, rfl⟩ : ∃ k, j = k + 1 := ⟨j - 1, by omega⟩
      have hk1 : (((k + 1 : Nat) : Int) - 1) = (k : Int) := by omega
      rw [hk1]
      obtain ⟨g, q, x, rfl, hg, HX, x0_, x1_, x2_⟩ := hoB.rd.at_ (k := k) (by omega)
      have k0 : (0 : Int) ≤ (k : Int) := by omega
      have k2 : (k : Int) < (n8 : Int) := by omega
      have HST := Lib.hid (cntF_step (o := o) HX.out)
      have hcb := cntF_bd o (x1.drop (k + 1))
      have hdl2 : (x1.drop (k + 1)).length ≤ 1000000 := by have := HN8.out; simp; omega
      generalize cntF o (x1.drop (k + 1)) = cn at *
      generalize fstF o (x1.drop (k + 1)) = fs at *
      clear hk1
      cases hxo : x.o == o with
      | true =>
        rw [hxo] at HST
        go_wp2
        go_roundg k
        case measure => omega
        case rel => exact ⟨k, by omega, rfl, rfl, by rw [HST.out.1]; go_num, by rw [HST.out.2]; rfl, rfl⟩
      | false =>
        rw [hxo] at HST
        go_wp2
        go_roundg k
        case measure => omega
        case rel => exact ⟨k, by omega, rfl, rfl, by rw [HST.out.1]; rfl, by rw [HST.out.2]; rfl, rfl⟩
end Go.Proofs.Ytepedjnmliclkaa
