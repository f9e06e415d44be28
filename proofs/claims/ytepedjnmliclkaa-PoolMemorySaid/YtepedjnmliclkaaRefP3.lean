/- The document's pool: Expire. Conditions: at most 10^6 items. -/
import Derived.Test.YtepedjnmliclkaaRefP2
import Derived.Test.YtepedjnmliclkaaRefLP
import Derived.StillTailTactics
import Derived.Deep.Cut
import Derived.Deep.DeepCutAuto
set_option linter.unusedVariables false
set_option linter.unusedSimpArgs false
namespace Go.Proofs.Ytepedjnmliclkaa
open Go.RowKit

set_option maxRecDepth 100000
theorem filt_snoc {p : Cn → Bool} {l : List Cn} {k : Nat} {x : Cn} (h : l[k]? = some x) : (l.take (k + 1)).filter p = (l.take k).filter p ++ (if p x = true then [x] else []) := by
  rw [take_snoc? h, List.filter_append]
  simp only [List.filter_cons, List.filter_nil]
set_option maxHeartbeats 2000000 in
theorem expire23_any (m e i : Int) (A : Option Addr) (n c : Nat) (l : List Cn) (now : Int) (w : World) (hl : RdT w A n l) (hn : n ≤ 1000000) :
    Calls Try.prog 51 #[poolV m e i A n c, .int .i64 now] w fun x w' => ∃ A' n' c' G gn gc, x = .returned (.tuple #[poolV m e i A' n' c', .slice G gn gc]) ∧ OwnT 128 w' w.heap.size (.slice A' n' c') (l.filter fun y => !oldX i now y) ∧ OwnI w' w.heap.size (.slice G gn gc) ((l.filter (oldX i now)).map (·.id)) ∧ Below w.heap.size w w' := by
  unfold poolV
  have hal1 := alloc_below w (.cells (pCells m e i A n c) 76)
  have hr1 := heap_alloc_new w (.cells (pCells m e i A n c) 76)
  have hl1 := hl.step hal1
  generalize hw1 : w.alloc (.cells (pCells m e i A n c) 76) = w1 at *
  have hz1 : w1.heap.size = w.heap.size + 1 := by rw [← hw1]; simp
  have hal2 := alloc_below w1 (.cells (pCells 0 0 0 none 0 0) 76)
  have hr2 := heap_alloc_new w1 (.cells (pCells 0 0 0 none 0 0) 76)
  have hb0 := bnext hal1 hal2 hal1.size
  have hl2 := hl1.step hal2
  have hr1a := row_keep hr1 hal2
  rw [hz1] at hr2
  generalize hw2 : w1.alloc (.cells (pCells 0 0 0 none 0 0) 76) = wx at *
  have hsz : wx.heap.size = w.heap.size + 2 := by rw [← hw2]; simp [hz1]
  have hln := hl.1
  have HE : Hid (l.take n = l) := Lib.hid (List.take_of_length_le (by rw [hl.1]; exact Nat.le_refl _))
  have HL := Lib.hid hl
  clear hal1 hal2 hr1 hl hl1
  go_enter Try.func51, Try.ntmps51
  go_upto_region 1 with fail
  clear hw1 hw2
  have hal3 := alloc_below wx (.cells #[] 3)
  have hown := OwnI.made wx
  have hl3 := hl2.step hal3
  have hrA := row_keep hr1a hal3
  have hrB := row_keep hr2 hal3
  have hb3 := bnext hb0 hal3 hb0.size
  go_upto_region 2 with fail
  generalize hw3 : wx.alloc (.cells #[] 3) = w3 at *
  have hz3 : w3.heap.size = w.heap.size + 3 := by rw [← hw3]; simp [hsz]
  have hal4 := alloc_below w3 (.cells #[] 128)
  have hown4 := hown.step hal4
  have hit := OwnT.made 128 w3
  have hl4 := hl3.step hal4
  replace hrA := row_keep hrA hal4
  replace hrB := row_keep hrB hal4
  have hb4 := bnext hb3 hal4 hb3.size
  rw [hsz] at hown4
  rw [hz3] at hit
  have hz4w : (w3.alloc (.cells #[] 128)).heap.size = w.heap.size + 4 := by simp [hz3]
  clear hal3 hal4 hown hl3 hb3 hl2 hr1a hr2 hb0 hw3
  go_upto_region 3 with fail
  generalize w3.alloc (.cells #[] 128) = w4 at *
  obtain ⟨wq, rfl⟩ : ∃ wq, wq = w4 := ⟨_, rfl⟩
  go_wp2
  go_loopg [6, 7, 8] n (fun r go_ le t wr => ∃ (k : Nat) (A5 : Option Addr) (n5 c5 : Nat) (A6 : Option Addr) (n6 c6 : Nat), k ≤ n ∧ r + k = n ∧ t = .int .i64 k ∧ go_ = .slice A5 n5 c5 ∧ le = .slice A6 n6 c6 ∧ OwnI wr (w.heap.size + 2) (.slice A5 n5 c5) (((l.take k).filter (oldX i now)).map (·.id)) ∧ OwnT 128 wr (w.heap.size + 2) (.slice A6 n6 c6) ((l.take k).filter fun y => !oldX i now y) ∧ Below (w.heap.size + 2) wq wr)
  case atStart => exact ⟨0, some ⟨wx.heap.size, 0, none⟩, 0, 0, some ⟨w3.heap.size, 0, none⟩, 0, 0, by omega, by omega, rfl, by rw [hsz], by rw [hz3], by rw [hsz]; exact hown4, by rw [hz3]; exact hit.mono (by omega), Below.refl _ _⟩
  case round =>
    clear hown4 hit
    obtain ⟨k, A5, n5, c5, A6, n6, c6, hk, hr, rfl, rfl, rfl, hg, ht, hbr⟩ := hrel
    obtain ⟨wo, rfl⟩ : ∃ wo, wo = wr := ⟨_, rfl⟩
    have hqA := row_keep2 hrA hbr (by omega)
    have hqB := row_keep2 hrB hbr (by omega)
    obtain ⟨⟨c0, c1, c2, c3⟩, f0, f1, f2, f3⟩ := row_facts4p hqA
    obtain ⟨⟨d0, d1, d2, d3⟩, g0, g1, g2, g3⟩ := row_facts4p hqB
    have hz4 : w.heap.size + 4 ≤ wo.heap.size := by have := hbr.size; omega
    have hbx : Below w.heap.size w wo := hb4.trans (hbr.mono (by omega))
    by_cases hlt2 : k < n
    · obtain ⟨g, o, x, rfl, hgz, HX, x0, x1, x2⟩ := (HL.out.step hbx).at_ hlt2
      have k0 : (0 : Int) ≤ (k : Int) := by omega
      have k1 : (k : Int) < (n : Int) := by omega
      have HS1 := Lib.hid (filt_snoc (p := oldX i now) HX.out)
      have HS2 := Lib.hid (filt_snoc (p := fun y => !oldX i now y) HX.out)
      have hf1 : ((l.take k).filter (oldX i now)).length ≤ 1000000 := Nat.le_trans (List.length_filter_le _ _) (by simp; omega)
      have hf2 : ((l.take k).filter fun y => !oldX i now y).length ≤ 1000000 := Nat.le_trans (List.length_filter_le _ _) (by simp; omega)
      have HQA := Lib.hid hqA
      generalize (l.take k).filter (oldX i now) = L1 at *
      generalize (l.take k).filter (fun y => !oldX i now y) = L2 at *
      have hO := old23_any m e i (some ⟨g, o, none⟩) n c x now wo.drew
      unfold poolV itV at hO
      generalize hob : oldX i now x = ob at *
      have HOB := Lib.hid hob
      clear hob
      have hwn : wo.drew.cell? ⟨w.heap.size, 0, none⟩ = some (.int .i64 m) ∧ wo.drew.cell? ⟨w.heap.size, 1, none⟩ = some (.int .i64 e) ∧ wo.drew.cell? ⟨w.heap.size, 2, none⟩ = some (.int .i64 i) ∧ wo.drew.cell? ⟨w.heap.size, 3, none⟩ = some (.slice (some ⟨g, o, none⟩) n c) ∧ wo.drew.cell? ⟨g, o + k * 3, none⟩ = some (.string (bs x.o)) ∧ wo.drew.cell? ⟨g, o + k * 3 + 1, none⟩ = some (.int .i64 x.id) ∧ wo.drew.cell? ⟨g, o + k * 3 + 2, none⟩ = some (.int .i64 x.wh) := ⟨c0, c1, c2, c3, x0, x1, x2⟩
      go_upto_region 6 with fail
      go_cut [25] (fun v wc => v = .bool ob ∧ Below wo.heap.size wo wc)
      case first =>
        go_still_tail 7, (by kernel_rfl)
        change wpList _ _ _ _ _ wo.drew
        go_wp2_with fail
        refine hO.mono ?_
        rintro e' w6 ⟨rfl, hb6⟩
        go_wp2
        go_meet
        case rel => exact ⟨rfl, (Below.refl _ _).drew.trans hb6⟩
      case rest =>
        obtain ⟨rfl, hbc⟩ := hcut
        have hgc := hg.step hbc
        have htc := ht.step hbc
        have hqA' := row_keep HQA.out hbc
        have hbr' := hbr.trans (hbc.mono (by omega))
        have hbx' := hbx.trans (hbc.mono hbx.size)
        obtain ⟨g', o', x', e1, hgz', HX', y0, y1, y2⟩ := (HL.out.step hbx').at_ hlt2
        cases e1
        obtain rfl : x' = x := by have h1 := HX'.out; rw [HX.out] at h1; exact (Option.some.inj h1).symm
        have hzc := hbc.size
        clear hg ht hqA hqB hbr hbx hO HX' hwn
        obtain ⟨⟨c0, c1, c2, c3⟩, -⟩ := row_facts4p hqA'
        have HX0 := Lib.hid hqA'
        clear hqA' x0 x1 x2 hl4
        cases ob with
        | true =>

          have hi := alloc_below wc (.cells #[.int .i64 x'.id] 3)
          have ht9 := htc.step hi
          go_wp2_with
            (at_builtin; go_loud (
             refine wp_appI rfl (.tmp 26) (.tmp 33) rfl (w.heap.size + 2) (.slice A5 n5 c5) (L1.map (·.id)) rfl (hgc.step hi) (some ⟨wc.heap.size, 0, none⟩) 1 1 [x'.id] rfl ?hr ?hby ?hbase ?_
             case hr => exact one_rdI _ _ _
             case hby => first | omega | (simp; omega)
             case hbase => first | omega | (simp; omega)
             intro A9 n9 c9 w9 hown9 hb9 hg9 hn9
             have ht10 : OwnT 128 w9 (w.heap.size + 2) (.slice A6 n6 c6) L2 := own_app ht9 (hgc.step hi) hg9 (by decide)))
          have hb9' := hbr'.trans ((hi.mono (by omega)).trans hb9)
          go_roundg (n - (k + 1))
          case measure => omega
          case rel => exact ⟨k + 1, A9, n9, c9, A6, n6, c6, by omega, by omega, by go_num, rfl, rfl, by rw [HS1.out]; simpa using hown9, by rw [HS2.out]; simpa using ht10, hb9'⟩
        | false =>

          have hi := alloc_below wc (.cells #[.string (bs x'.o), .int .i64 x'.id, .int .i64 x'.wh] 128)
          have hg9' := hgc.step hi
          go_wp2_with
            (at_builtin; go_loud (
             refine wp_appT Try.underlying74 it23_info rfl (.tmp 35) (.tmp 41) rfl (w.heap.size + 2) (.slice A6 n6 c6) L2 rfl (htc.step hi) (some ⟨wc.heap.size, 0, none⟩) 1 1 [x'] rfl ?hr ?hby ?hbase ?_
             case hr => exact one_rdT _ _ _
             case hby => first | omega | (simp; omega)
             case hbase => first | omega | (simp; omega)
             intro A9 n9 c9 w9 hown9 hb9 hg9 hn9
             have hg10 : OwnI w9 (w.heap.size + 2) (.slice A5 n5 c5) (L1.map (·.id)) := own_app hg9' (htc.step hi) hg9 (by decide)))
          have hb9' := hbr'.trans ((hi.mono (by omega)).trans hb9)
          go_roundg (n - (k + 1))
          case measure => omega
          case rel => exact ⟨k + 1, A5, n5, c5, A9, n9, c9, by omega, by omega, by go_num, rfl, rfl, by rw [HS1.out]; simpa using hg10, by rw [HS2.out]; simpa using hown9, hb9'⟩
    · obtain rfl : k = n := by omega
      rw [HE.out] at hg ht
      clear HL hl4
      go_wp2
      refine bodyPost_ret (v := .tuple #[.agg #[.int .i64 m, .int .i64 e, .int .i64 i, .slice A6 n6 c6], .slice A5 n5 c5]) (by simp [results, Try.results51, go_sem, c0, c1, c2, c3, d0, d1, d2, d3]) rfl ⟨A6, n6, c6, A5, n5, c5, rfl, ?_, ?_, ((((hbx.setCell (by simp) _).setCell (by simp) _).setCell (by simp) _).setCell (by simp) _).setCell (by simp) _⟩
      · exact (((((ht.setCell (by simp) _).setCell (by simp) _).setCell (by simp) _).setCell (by simp) _).setCell (by simp) _).mono (by omega)
      · exact own_mono (own_setCellT (own_setCellT (own_setCellT (own_setCellT (own_setCellT hg (by simp) _) (by simp) _) (by simp) _) (by simp) _) (by simp) _) (by omega)
end Go.Proofs.Ytepedjnmliclkaa
