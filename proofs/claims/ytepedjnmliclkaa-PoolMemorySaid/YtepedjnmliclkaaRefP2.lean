/- The document's pool: Ids, Drop, Take, Expire. Conditions: at most 10^6 items; Take's items are a row of the call's own. -/
import Derived.Test.YtepedjnmliclkaaRefP
import Derived.Deep.RegionHeld3
import Derived.BigRegion
import Derived.RegionTactic
import Derived.ChangeAlike
set_option linter.unusedVariables false
set_option linter.unusedSimpArgs false
namespace Go.Proofs.Ytepedjnmliclkaa
open Go.RowKit

set_option maxRecDepth 100000
theorem OwnT.drew {T : TypeId} {w : World} {B : Nat} {v : Value} {l : List Cn} (h : OwnT T w B v l) : OwnT T w.drew B v l := h.step (Below.refl _ _).drew
set_option maxHeartbeats 1000000 in
theorem ids23_any (m e i : Int) (A : Option Addr) (n c : Nat) (l : List Cn) (w : World) (hl : RdT w A n l) (hn : n ≤ 1000000) :
    Calls Try.prog 56 #[poolV m e i A n c] w fun x w' => ∃ A' n' c', x = .returned (.slice A' n' c') ∧ OwnI w' w.heap.size (.slice A' n' c') (l.map (·.id)) ∧ Below w.heap.size w w' := by
  unfold poolV
  have hal := alloc_below w (.cells (pCells m e i A n c) 76)
  have hro := heap_alloc_new w (.cells (pCells m e i A n c) 76)
  have hl1 := hl.step hal
  have HE : Hid (l.take n = l) := Lib.hid (List.take_of_length_le (by rw [hl.1]; exact Nat.le_refl _))
  have hsz : (w.alloc (.cells (pCells m e i A n c) 76)).heap.size = w.heap.size + 1 := by simp
  go_enter Try.func56, Try.ntmps56
  go_upto_region 1 with fail
  generalize w.alloc (.cells (pCells m e i A n c) 76) = wx at *
  have hal2 := alloc_below wx (.cells #[] 3)
  have hown := OwnI.made wx
  rw [hsz] at hown hal2
  go_wp2
  go_loopg [3, 4] n (fun r u t wr => ∃ (k : Nat) (A5 : Option Addr) (n5 c5 : Nat), k ≤ n ∧ r + k = n ∧ t = .int .i64 k ∧ u = .slice A5 n5 c5 ∧ OwnI wr (w.heap.size + 1) (.slice A5 n5 c5) ((l.take k).map (·.id)) ∧ Below (w.heap.size + 1) wx wr)
  case atStart => exact ⟨0, some ⟨w.heap.size + 1, 0, none⟩, 0, 0, by omega, by omega, rfl, rfl, hown, hal2⟩
  case round =>
    clear hown hal2
    obtain ⟨k, A5, n5, c5, hk, hr, rfl, rfl, hown, hbr⟩ := hrel
    obtain ⟨⟨c0, c1, c2, c3⟩, -⟩ := row_facts4p (row_keep2 hro hbr (by omega))
    by_cases hlt2 : k < n
    · obtain ⟨g, o, x, rfl, hg, HX, d0, d1, d2⟩ := (hl1.step (by rw [hsz]; exact hbr)).at_ hlt2
      have k0 : (0 : Int) ≤ (k : Int) := by omega
      have k1 : (k : Int) < (n : Int) := by omega
      have HS := Lib.hid (take_snoc? HX.out)
      have hfl : ((l.take k).map (·.id)).length ≤ 1000000 := by simp; omega
      have hszr := hbr.size
      go_wp2_with
        (at_builtin
         refine wp_appI rfl (.tmp 13) (.tmp 20) rfl (w.heap.size + 1) (.slice A5 n5 c5) ((l.take k).map (·.id)) rfl (hown.step (alloc_below _ _)) (some ⟨wr.heap.size, 0, none⟩) 1 1 [x.id] rfl ?hr ?hby ?hbase ?_
         case hr => exact one_rdI _ _ _
         case hby => first | omega | (simp; omega)
         case hbase => first | omega | (simp; omega)
         intro A9 n9 c9 w9 hown9 hb9 hg9 hn9)
      have hb9' := hbr.trans (((alloc_below wr (.cells #[.int .i64 x.id] 3)).mono (by omega)).trans hb9)
      go_roundg (n - (k + 1))
      case measure => omega
      case rel => exact ⟨k + 1, A9, n9, c9, by omega, by omega, by go_num, rfl, by rw [HS.out, List.map_append]; exact hown9, hb9'⟩
    · obtain rfl : k = n := by omega
      rw [HE.out] at hown
      go_wp2
      go_ret
      exact ⟨A5, n5, c5, rfl, hown.mono (by omega), bnext hal (by rw [hsz]; exact hbr) hal.size⟩
theorem drop_any_len {s : Int} {l : List Cn} : decide (((dropL s l).length : Int) < (l.length : Int)) = l.any fun x => x.id == s := by
  have h : ∀ l : List Cn, (dropL s l).length ≤ l.length ∧ ((dropL s l).length < l.length ↔ (l.any fun x => x.id == s) = true) := by
    intro l
    induction l with
    | nil => simp [dropL]
    | cons x r ih =>
      unfold dropL at *
      by_cases hx : x.id = s
      · simp [List.filter_cons, hx]
        omega
      · have : (x.id != s) = true := by simp [hx]
        simp only [List.filter_cons, this, if_true, List.length_cons, List.any_cons]
        have h2 : (x.id == s) = false := by simp [hx]
        rw [h2, Bool.false_or, Nat.add_lt_add_iff_right]
        exact ⟨by omega, ih.2⟩
  have := h l
  rw [Bool.eq_iff_iff, decide_eq_true_iff, ← this.2]
  omega
set_option maxHeartbeats 1000000 in
theorem drop23_any (m e i : Int) (A : Option Addr) (n c : Nat) (l : List Cn) (s : Int) (w : World) (hl : RdT w A n l) (hn : n ≤ 1000000) :
    Calls Try.prog 53 #[poolV m e i A n c, .int .i64 s] w fun x w' => ∃ A' n' c', x = .returned (.tuple #[poolV m e i A' n' c', .bool (l.any fun x => x.id == s)]) ∧ OwnT 128 w' w.heap.size (.slice A' n' c') (dropL s l) ∧ Below w.heap.size w w' := by
  unfold poolV
  have hal1 := alloc_below w (.cells (pCells m e i A n c) 76)
  have hr1 := heap_alloc_new w (.cells (pCells m e i A n c) 76)
  have hl1 := hl.step hal1
  generalize hw1 : w.alloc (.cells (pCells m e i A n c) 76) = w1 at *
  have hz1 : w1.heap.size = w.heap.size + 1 := by rw [← hw1]; simp
  have hal2 := alloc_below w1 (.cells (pCells 0 0 0 none 0 0) 76)
  have hr2 := heap_alloc_new w1 (.cells (pCells 0 0 0 none 0 0) 76)
  have hb0 := bnext hal1 hal2 hal1.size
  have hl2 := hl1.step hal2
  have hr1a := row_keep hr1 hal2
  rw [hz1] at hr2
  generalize hw2 : w1.alloc (.cells (pCells 0 0 0 none 0 0) 76) = wx at *
  have hwz : wx.heap.size = w.heap.size + 2 := by rw [← hw2]; simp [hz1]
  have hC := without23_any m e i A n c l s wx hl2 hn
  have HD := Lib.hid (drop_any_len (s := s) (l := l))
  have hln := hl.1
  obtain ⟨⟨c0, c1, c2, c3⟩, -⟩ := row_facts4p hr1a
  unfold poolV at hC
  clear hal1 hal2 hr1 hl hl1 hl2
  go_enter Try.func53, Try.ntmps53
  go_upto_region 1 with fail
  clear hw1 hw2
  go_wp2_with fail
  refine hC.mono ?_
  rintro e' w4 ⟨A4, n4, c4, rfl, ho4, hb4⟩
  replace hr1a := row_keep hr1a hb4
  replace hr2 := row_keep hr2 hb4
  have hbA := bnext hb0 hb4 hb0.size
  have hal := alloc_below w4 (.cells (pCells m e i A4 n4 c4) 76)
  have hr5 := heap_alloc_new w4 (.cells (pCells m e i A4 n4 c4) 76)
  replace hr1a := row_keep hr1a hal
  replace hr2 := row_keep hr2 hal
  have hbB := bnext hbA hal hbA.size
  have ho5 := ho4.step hal
  have hn4 := ho4.rd.1
  have hzx := hb4.size
  have hzw := hb0.size
  have hz4 : w.heap.size + 2 ≤ w4.heap.size := by omega
  obtain ⟨⟨c0, c1, c2, c3⟩, -⟩ := row_facts4p hr1a
  obtain ⟨⟨d0, d1, d2, d3⟩, g0, g1, g2, g3⟩ := row_facts4p hr2
  obtain ⟨⟨p0, p1, p2, p3⟩, -⟩ := row_facts4p hr5
  rw [hln, hn4] at HD
  generalize hgl : (dropL s l).length = dl at *
  clear hb0 hb4 hal hbA hC hln hn4 hgl hzx hzw hr1a hr2 hr5 hz1
  go_upto_region 2 with fail
  generalize w4.alloc (.cells (pCells m e i A4 n4 c4) 76) = w5 at *
  go_region
  all_goals
    go_wp2
    refine bodyPost_ret (v := .tuple #[.agg #[.int .i64 m, .int .i64 e, .int .i64 i, .slice A4 n4 c4], .bool (decide (n4 < n))]) (by simp [results, Try.results53, go_sem, d0, d1, d2, d3]) rfl ⟨A4, n4, c4, by rw [← HD.out]; simp, ((((ho5.drew.setCell (by simp; omega) _).setCell (by simp; omega) _).setCell (by simp; omega) _).setCell (by simp; omega) _).mono (by omega), (((hbB.drew.setCell (by simp) _).setCell (by simp) _).setCell (by simp) _).setCell (by simp) _⟩
theorem set4_other {w : World} {b : Nat} {cs : Array Value} {t : TypeId} (h : w.heap[b]? = some (.cells cs t (0, 0))) {g : Nat} (hne : g ≠ b) (v0 v1 v2 v3 : Value) : ((((w.setCell ⟨g, 0, none⟩ v0).setCell ⟨g, 1, none⟩ v1).setCell ⟨g, 2, none⟩ v2).setCell ⟨g, 3, none⟩ v3).heap[b]? = some (.cells cs t (0, 0)) := by
  have h1 := heap_set h g 0 v0
  rw [if_neg hne] at h1
  have h2 := heap_set h1 g 1 v1
  rw [if_neg hne] at h2
  have h3 := heap_set h2 g 2 v2
  rw [if_neg hne] at h3
  have h4 := heap_set h3 g 3 v3
  rwa [if_neg hne] at h4
theorem tk {w : World} {a b : Nat} {m e i : Int} {A : Option Addr} {n c : Nat} {x : Cn} {T U : TypeId} (h1 : w.heap[a]? = some (.cells (pCells m e i A n c) T (0, 0))) (h2 : w.heap[b]? = some (.cells #[.string (bs x.o), .int .i64 x.id, .int .i64 x.wh] U (0, 0))) :
    w.cell? ⟨a, 0, none⟩ = some (.int .i64 m) ∧ w.cell? ⟨a, 1, none⟩ = some (.int .i64 e) ∧ w.cell? ⟨a, 2, none⟩ = some (.int .i64 i) ∧ w.cell? ⟨a, 3, none⟩ = some (.slice A n c) ∧ w.cell? ⟨b, 1, none⟩ = some (.int .i64 x.id) := by
  obtain ⟨⟨c0, c1, c2, c3⟩, -⟩ := row_facts4p h1
  obtain ⟨d0, d1, d2⟩ := row_facts3 h2
  exact ⟨c0, c1, c2, c3, d1⟩
def takeW (p : Value) (r : Option Cn) : Value := match r with | some x => .tuple #[p, .int .i64 x.id, .bool true] | none => .tuple #[p, .int .i64 0, .bool false]
theorem lastL_stop {p : Cn → Bool} {l : List Cn} {k : Nat} {x : Cn} (hx : l[k]? = some x) (hp : p x = true) (hb : ∀ (j : Nat) (y : Cn), k + 1 ≤ j → l[j]? = some y → p y = false) : lastL p l = some x := lastL_some hx hp fun j y h1 h2 => hb j y h1 h2
set_option maxHeartbeats 2000000 in
theorem take23_any (m e i : Int) (A : Option Addr) (n c : Nat) (l : List Cn) (o : List UInt8) (now : Int) (B : Nat) (w : World) (hl : OwnT 128 w B (.slice A n c) l) (hn : n ≤ 1000000) (hB : B ≤ w.heap.size) :
    Calls Try.prog 50 #[poolV m e i A n c, .string (bs o), .int .i64 now] w fun x w' => ∃ A' n' c', x = .returned (takeW (poolV m e i A' n' c') (lastL (takeB i now o) l)) ∧ OwnT 128 w' B (.slice A' n' c') (takeR (lastL (takeB i now o) l) l) ∧ Below w.heap.size w w' := by
  unfold poolV
  have hal1 := alloc_below w (.cells (pCells m e i A n c) 76)
  have hr1 := heap_alloc_new w (.cells (pCells m e i A n c) 76)
  have hl1 := hl.step hal1
  generalize hw1 : w.alloc (.cells (pCells m e i A n c) 76) = w1 at *
  have hz1 : w1.heap.size = w.heap.size + 1 := by rw [← hw1]; simp
  have hal2 := alloc_below w1 (.cells (pCells 0 0 0 none 0 0) 76)
  have hr2 := heap_alloc_new w1 (.cells (pCells 0 0 0 none 0 0) 76)
  have hb0 := bnext hal1 hal2 hal1.size
  have hl2 := hl1.step hal2
  have hr1a := row_keep hr1 hal2
  rw [hz1] at hr2
  generalize hw2 : w1.alloc (.cells (pCells 0 0 0 none 0 0) 76) = wx at *
  have hsz : wx.heap.size = w.heap.size + 2 := by rw [← hw2]; simp [hz1]
  have hln := hl.rd.1
  obtain ⟨⟨c0, c1, c2, c3⟩, -⟩ := row_facts4p hr1a
  have HW : Hid (∀ (k : Nat) (x : Cn), l[k]? = some x → takeB i now o x = true → (∀ (j : Nat) (y : Cn), k + 1 ≤ j → l[j]? = some y → takeB i now o y = false) → lastL (takeB i now o) l = some x) := Lib.hid fun k x => lastL_stop
  have HNO : Hid ((∀ (j : Nat) (y : Cn), 0 ≤ j → l[j]? = some y → takeB i now o y = false) → lastL (takeB i now o) l = none) := Lib.hid fun h => lastL_none fun y hy => by
    obtain ⟨j, hj, rfl⟩ := List.getElem_of_mem hy
    exact h j _ (Nat.zero_le _) (List.getElem?_eq_getElem hj)
  have HT : Hid (∀ y : Cn, takeB i now o y = (y.o == o && !oldX i now y)) := Lib.hid fun y => rfl
  have hE : Hid (∀ (j : Nat) (y : Cn), n ≤ j → l[j]? = some y → takeB i now o y = false) := Lib.hid fun j y h1 h2 => by
    rw [List.getElem?_eq_none (by omega)] at h2; cases h2
  have HL := Lib.hid hl
  clear hal1 hal2 hr1 hl hl1
  go_enter Try.func50, Try.ntmps50
  go_upto_region 1 with fail
  clear hw1 hw2
  have hwn : IntKind.i64.wrap ((n : Int) - 1) = (n : Int) - 1 := IntWalk.i64_in _ (by omega)
  go_wp2
  go_loopg [9] n (fun r t wr => ∃ j : Nat, j ≤ n ∧ r = j ∧ t = .int .i64 ((j : Int) - 1) ∧ Hid (∀ (k : Nat) (y : Cn), j ≤ k → l[k]? = some y → takeB i now o y = false) ∧ Below (w.heap.size + 2) wx wr)
  case atStart => exact ⟨n, by omega, rfl, rfl, hE, Below.refl _ _⟩
  case round =>
    clear hE
    obtain ⟨j, hj, hr, rfl, HJ, hbr⟩ := hrel
    obtain ⟨wo, rfl⟩ : ∃ wo, wo = wr := ⟨_, rfl⟩
    have hrA := row_keep2 hr1a hbr (by omega)
    have hrB := row_keep2 hr2 hbr (by omega)
    obtain ⟨⟨c0, c1, c2, c3⟩, -⟩ := row_facts4p hrA
    obtain ⟨⟨d0, d1, d2, d3⟩, g0, g1, g2, g3⟩ := row_facts4p hrB
    have hbx := bnext hb0 (by rw [hsz]; exact hbr) hb0.size
    have hlo := hl2.step (show Below wx.heap.size wx wo by rw [hsz]; exact hbr)
    rcases Nat.eq_zero_or_pos j with rfl | hjp
    · have HN := Lib.hid (HNO.out HJ.out)
      have hneg : (((0 : Nat) : Int) - 1) = -1 := by omega
      rw [hneg]
      have hzo := hbr.size
      clear HW HNO HT HJ hneg
      go_wp2
      refine bodyPost_ret (v := .tuple #[.agg #[.int .i64 m, .int .i64 e, .int .i64 i, .slice A n c], .int .i64 0, .bool false]) (by simp [results, Try.results50, go_sem, d0, d1, d2, d3]) rfl ⟨A, n, c, by rw [HN.out]; rfl, ?_, (((hbx.setCell (by simp) _).setCell (by simp) _).setCell (by simp) _).setCell (by simp) _⟩
      rw [HN.out]
      exact HL.out.step ((((hbx.setCell (by simp) _).setCell (by simp) _).setCell (by simp) _).setCell (by simp) _)
    · obtain ⟨k, rfl⟩ : ∃ k, j = k + 1 := ⟨j - 1, by omega⟩
      have hk1 : (((k + 1 : Nat) : Int) - 1) = (k : Int) := by omega
      rw [hk1]
      obtain ⟨g, q, x, rfl, hg, HX, x0, x1, x2⟩ := hlo.rd.at_ (k := k) (by omega)
      have k0 : (0 : Int) ≤ (k : Int) := by omega
      have k2 : (k : Int) < (n : Int) := by omega
      have hal := alloc_below wo (.cells #[.string (bs x.o), .int .i64 x.id, .int .i64 x.wh] 128)
      have hri := heap_alloc_new wo (.cells #[.string (bs x.o), .int .i64 x.id, .int .i64 x.wh] 128)
      have hrA' := row_keep hrA hal
      have hrB' := row_keep hrB hal
      have hlo' := hlo.step hal
      have hbr' := hbr.trans (hal.mono (by have := hbr.size; omega))
      have hbx' := bnext hbx hal hbx.size
      have hkn : (k : Int) - 1 = ((k : Int) - 1) := rfl
      have hibx : w.heap.size + 2 ≤ wo.heap.size := by have := hbr.size; omega
      clear hrA hrB hlo hbr hbx hk1 hkn
      go_upto_region 5 with fail
      generalize wo.alloc (.cells #[.string (bs x.o), .int .i64 x.id, .int .i64 x.wh] 128) = w5 at *
      generalize wo.heap.size = ib at *
      clear c0 c1 c2 c3 d0 d1 d2 d3 g0 g1 g2 g3 x0 x1 x2
      obtain ⟨⟨c0, c1, c2, c3⟩, -⟩ := row_facts4p hrA'
      obtain ⟨d0, d1, d2⟩ := row_facts3 hri
      go_cut [34] (fun v wc => v = .bool (takeB i now o x) ∧ Below w5.heap.size w5 wc)
      case first =>
        have HTX := Lib.hid (HT.out x)
        cases ho : x.o == o with
        | false =>
          rw [ho, Bool.false_and] at HTX
          go_wp2
          go_meet
          case rel => exact ⟨by rw [HTX.out], Below.refl _ _⟩
        | true =>
          rw [ho, Bool.true_and] at HTX
          have hO := old23_any m e i (some ⟨g, q, none⟩) n c x now w5
          unfold poolV itV at hO
          generalize oldX i now x = ob at *
          go_wp2_with fail
          refine hO.mono ?_
          rintro e' w6 ⟨rfl, hb6⟩
          clear hO
          go_wp2
          go_meet
          case rel => exact ⟨by rw [HTX.out], hb6⟩
      case rest =>
        obtain ⟨rfl, hbc⟩ := hcut
        have hrA := row_keep hrA' hbc
        have hrB := row_keep hrB' hbc
        have hrI := row_keep hri hbc
        have hlc := hlo'.step hbc
        have hbq := hbr'.trans (hbc.mono (Nat.le_trans (by omega) hbr'.size))
        have hbz := bnext hbx' hbc hbx'.size
        have hib : w.heap.size + 1 < ib := by omega
        clear hrA' hrB' hri hlo' hbr' hbx' c0 c1 c2 c3 d0 d1 d2
        cases htb : takeB i now o x with
        | false =>
          have HJ2 : Hid (∀ (k2 : Nat) (y : Cn), k ≤ k2 → l[k2]? = some y → takeB i now o y = false) := Lib.hid fun k2 y h1 h2 => by
            rcases Nat.lt_or_ge k k2 with h3 | h3
            · exact HJ.out k2 y h3 h2
            · obtain rfl : k2 = k := by omega
              rw [HX.out] at h2
              obtain rfl := Option.some.inj h2
              exact htb
          clear HJ htb HW HNO HT
          go_wp2
          go_roundg k
          case measure => omega
          case rel => exact ⟨k, by omega, rfl, rfl, HJ2, hbq⟩
        | true =>
          have HWN := Lib.hid (HW.out k x HX.out htb HJ.out)
          have hC := without23_any m e i (some ⟨g, q, none⟩) n c l x.id wc.drew (hlc.drew.rd) hn
          have hS0 := tk hrA hrI
          have hS1 : wc.drew.cell? ⟨w.heap.size, 0, none⟩ = some (.int .i64 m) ∧ wc.drew.cell? ⟨w.heap.size, 1, none⟩ = some (.int .i64 e) ∧ wc.drew.cell? ⟨w.heap.size, 2, none⟩ = some (.int .i64 i) ∧ wc.drew.cell? ⟨w.heap.size, 3, none⟩ = some (.slice (some ⟨g, q, none⟩) n c) ∧ wc.drew.cell? ⟨ib, 1, none⟩ = some (.int .i64 x.id) := hS0
          have HA := Lib.hid hrA
          have HI := Lib.hid hrI
          have HB' := Lib.hid hrB
          unfold poolV at hC
          clear hlc hrA hrI hrB hS0 HW HNO HT HJ htb
          go_upto_region 6 with fail
          go_region_held3 (fun w' => w'.cell? ⟨w.heap.size, 0, none⟩ = some (.int .i64 m) ∧ w'.cell? ⟨w.heap.size, 1, none⟩ = some (.int .i64 e) ∧ w'.cell? ⟨w.heap.size, 2, none⟩ = some (.int .i64 i) ∧ w'.cell? ⟨w.heap.size, 3, none⟩ = some (.slice (some ⟨g, q, none⟩) n c) ∧ w'.cell? ⟨ib, 1, none⟩ = some (.int .i64 x.id))
            ((first | exact hS1 | exact tk hqA hqI | exact tk (set4_other hqA (by omega) _ _ _ _) (set4_other hqI (by omega) _ _ _ _)))
            ((go_at_call 73; (with_reducible refine hC.mono ?_); rintro e' w6 ⟨A6, n6, c6, rfl, ho6, hb6⟩; have hqA := row_keep (w := wc.drew) HA.out hb6; have hqI := row_keep (w := wc.drew) HI.out hb6; have hqB := row_keep (w := wc.drew) HB'.out hb6; obtain ⟨⟨d0, d1, d2, d3⟩, g0, g1, g2, g3⟩ := row_facts4p hqB))
          have hbY := hbz.drew.trans (hb6.mono hbz.drew.size)
          have hw6 := hb6.size
          have hbd := hbq.size
          all_goals
            go_wp2
            refine bodyPost_ret (v := .tuple #[.agg #[.int .i64 m, .int .i64 e, .int .i64 i, .slice A6 n6 c6], .int .i64 x.id, .bool true]) (by simp [results, Try.results50, go_sem, d0, d1, d2, d3]) rfl ⟨A6, n6, c6, by rw [HWN.out]; rfl, ?_, (((hbY.setCell (by simp) _).setCell (by simp) _).setCell (by simp) _).setCell (by simp) _⟩
            rw [HWN.out]
            refine OwnT.mono (B := wc.drew.heap.size) ?_ (by simp at hw6 ⊢; omega)
            exact (((ho6.setCell (by simp; omega) _).setCell (by simp; omega) _).setCell (by simp; omega) _).setCell (by simp; omega) _
end Go.Proofs.Ytepedjnmliclkaa
