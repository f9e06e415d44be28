/- The document's pool: New, old, without, Ids, Drop, Take, Expire. Conditions: at most 10^6 items. -/
import Derived.Test.YtepedjnmliclkaaRefL
import Derived.Test.YtepedjnmliclkaaPoolM
import Derived.Test.YtepedjnmliclkaaPoolL
import Derived.Test.YtepedjnmliclkaaOps
set_option linter.unusedVariables false
set_option linter.unusedSimpArgs false
namespace Go.Proofs.Ytepedjnmliclkaa
open Go.RowKit

set_option maxRecDepth 100000
theorem row_facts4p {w : World} {v0 v1 v2 v3 : Value} {t : TypeId} {B : Nat} (h : w.heap[B]? = some (.cells #[v0, v1, v2, v3] t (0, 0))) :
    (w.cell? ⟨B, 0, none⟩ = some v0 ∧ w.cell? ⟨B, 1, none⟩ = some v1 ∧ w.cell? ⟨B, 2, none⟩ = some v2 ∧ w.cell? ⟨B, 3, none⟩ = some v3) ∧ w.frozen? ⟨B, 0, none⟩ = false ∧ w.frozen? ⟨B, 1, none⟩ = false ∧ w.frozen? ⟨B, 2, none⟩ = false ∧ w.frozen? ⟨B, 3, none⟩ = false := by
  refine ⟨⟨?_, ?_, ?_, ?_⟩, ?_, ?_, ?_, ?_⟩
  all_goals first | (rw [cell_of_row _ _ _ _ _ _ h]; rfl) | (simp only [World.frozen?, h]; rfl)
def poolV (m e i : Int) (A : Option Addr) (n c : Nat) : Value := .agg #[.int .i64 m, .int .i64 e, .int .i64 i, .slice A n c]
abbrev pCells (m e i : Int) (A : Option Addr) (n c : Nat) : Array Value := #[.int .i64 m, .int .i64 e, .int .i64 i, .slice A n c]
theorem up23_any (v : Int) (w : World) : Calls Try.prog 72 #[.int .i64 v] w fun e w' => e = .returned (.int .i64 (upL v)) ∧ w = w' := by
  by_cases h : v < 0
  · rw [upL_neg h]
    go_enter Try.func72, Try.ntmps72
    go_wp2
    go_ret
    exact ⟨rfl, rfl⟩
  · rw [upL_pos h]
    go_enter Try.func72, Try.ntmps72
    go_wp2
    go_ret
    exact ⟨rfl, rfl⟩
theorem second23_any (v : Int) (w : World) : Calls Try.prog 81 #[.int .i64 v] w fun e w' => e = .returned (.int .i64 (secL v)) ∧ w' = w := by
  by_cases h : 253402300799 < v
  · have HS : Hid (secL v = 253402300799) := Lib.hid (by unfold secL; rw [if_neg (by omega), if_pos h])
    go_enter Try.func81, Try.ntmps81
    go_wp2
    go_ret
    exact ⟨ret_int HS.out.symm, rfl⟩
  · have HS : Hid (secL v = upL v) := Lib.hid (by unfold secL upL; by_cases h0 : v < 0; rw [if_pos h0, if_pos h0]; rw [if_neg h0, if_neg h, if_neg h0])
    go_enter Try.func81, Try.ntmps81
    go_wp2_with fail
    refine (up23_any v _).mono ?_
    rintro e w1 ⟨rfl, rfl⟩
    go_wp2
    go_ret
    exact ⟨ret_int HS.out.symm, rfl⟩
theorem new23_any (m e i : Int) (w : World) : Calls Try.prog 47 #[.int .i64 m, .int .i64 e, .int .i64 i] w fun x w' => x = .returned (poolV (upL m) (upL e) (upL i) none 0 0) ∧ Below w.heap.size w w' := by
  unfold poolV
  have hal := alloc_below w (.cells (pCells 0 0 0 none 0 0) 76)
  have hr := heap_alloc_new w (.cells (pCells 0 0 0 none 0 0) 76)
  generalize hw1 : w.alloc (.cells (pCells 0 0 0 none 0 0) 76) = w1 at *
  obtain ⟨⟨c0, c1, c2, c3⟩, f0, f1, f2, f3⟩ := row_facts4p hr
  go_enter Try.func47, Try.ntmps47
  go_wp2_with fail
  refine (up23_any _ _).mono ?_
  rintro e w2 ⟨rfl, rfl⟩
  go_wp2_with fail
  refine (up23_any _ _).mono ?_
  rintro e w2 ⟨rfl, rfl⟩
  go_wp2_with fail
  refine (up23_any _ _).mono ?_
  rintro e w2 ⟨rfl, rfl⟩
  go_wp2
  refine bodyPost_ret (v := .agg #[.int .i64 (upL m), .int .i64 (upL e), .int .i64 (upL i), .slice none 0 0]) (by simp [results, Try.results47, go_sem, c0, c1, c2, c3]) rfl ⟨rfl, (((hal.setCell (by simp) _).setCell (by simp) _).setCell (by simp) _).setCell (by simp) _⟩
theorem old23_any (m e i : Int) (A : Option Addr) (n c : Nat) (x : Cn) (now : Int) (w : World) : Calls Try.prog 74 #[poolV m e i A n c, itV x, .int .i64 now] w fun e w' => e = .returned (.bool (oldX i now x)) ∧ Below w.heap.size w w' := by
  unfold poolV itV
  have hal1 := alloc_below w (.cells (pCells m e i A n c) 76)
  have hr1 := heap_alloc_new w (.cells (pCells m e i A n c) 76)
  generalize hw1 : w.alloc (.cells (pCells m e i A n c) 76) = w1 at *
  have hz1 : w1.heap.size = w.heap.size + 1 := by rw [← hw1]; simp
  have hal2 := alloc_below w1 (.cells #[.string (bs x.o), .int .i64 x.id, .int .i64 x.wh] 128)
  have hr2 := heap_alloc_new w1 (.cells #[.string (bs x.o), .int .i64 x.id, .int .i64 x.wh] 128)
  generalize hw2 : w1.alloc (.cells #[.string (bs x.o), .int .i64 x.id, .int .i64 x.wh] 128) = w2 at *
  replace hr1 := row_keep2 hr1 hal2 (by omega)
  rw [hz1] at hr2
  have hb2 := bnext hal1 hal2 hal1.size
  obtain ⟨⟨c0, c1, c2, c3⟩, -⟩ := row_facts4p hr1
  obtain ⟨d0, d1, d2⟩ := row_facts3 hr2
  have b1 := secL_bd now
  have b2 := secL_bd x.wh
  have HO : Hid (oldX i now x = decide (i ≤ secL now - secL x.wh)) := Lib.hid rfl
  have hx := second23_any now
  have hy := second23_any x.wh
  generalize oldX i now x = R at *
  generalize secL now = a at *
  generalize secL x.wh = b at *
  have hw : IntKind.i64.wrap (a - b) = a - b := IntWalk.i64_in _ (by omega)
  have Hx : Hid (∀ w, Calls Try.prog 81 #[.int .i64 now] w fun e w' => e = .returned (.int .i64 a) ∧ w' = w) := Lib.hid hx
  have Hy : Hid (∀ w, Calls Try.prog 81 #[.int .i64 x.wh] w fun e w' => e = .returned (.int .i64 b) ∧ w' = w) := Lib.hid hy
  have HB2 := Lib.hid hb2
  clear hx hy b1 b2 hal1 hal2 hb2 hr1 hr2
  go_enter Try.func74, Try.ntmps74
  go_upto_region 1 with fail
  clear hw1 hw2
  go_quiet ((first | (go_at_call 81; with_reducible exact Calls.quiet_of_same (Hx.out _)) | (go_at_call 81; with_reducible exact Calls.quiet_of_same (Hy.out _))))
  go_wp2
  go_ret
  exact ⟨ret_bool HO.out.symm, below_drewN HB2.out _⟩
theorem dropL_snoc {i : Int} {l : List Cn} {k : Nat} {x : Cn} (h : l[k]? = some x) : dropL i (l.take (k + 1)) = dropL i (l.take k) ++ (if (x.id != i) = true then [x] else []) := by
  unfold dropL
  rw [take_snoc? h, List.filter_append]
  simp only [List.filter_cons, List.filter_nil]
set_option maxHeartbeats 1000000 in
theorem without23_any (m e i : Int) (A : Option Addr) (n c : Nat) (l : List Cn) (s : Int) (w : World) (hl : RdT w A n l) (hn : n ≤ 1000000) :
    Calls Try.prog 73 #[poolV m e i A n c, .int .i64 s] w fun x w' => ∃ A' n' c', x = .returned (poolV m e i A' n' c') ∧ OwnT 128 w' w.heap.size (.slice A' n' c') (dropL s l) ∧ Below w.heap.size w w' := by
  unfold poolV
  have hal1 := alloc_below w (.cells (pCells m e i A n c) 76)
  have hr1 := heap_alloc_new w (.cells (pCells m e i A n c) 76)
  have hl1 := hl.step hal1
  generalize hw1 : w.alloc (.cells (pCells m e i A n c) 76) = w1 at *
  have hz1 : w1.heap.size = w.heap.size + 1 := by rw [← hw1]; simp
  have hal2 := alloc_below w1 (.cells (pCells 0 0 0 none 0 0) 76)
  have hr2 := heap_alloc_new w1 (.cells (pCells 0 0 0 none 0 0) 76)
  have hb0 := bnext hal1 hal2 hal1.size
  have hl2 := hl1.step hal2
  have hr1a := row_keep hr1 hal2
  rw [hz1] at hr2
  generalize hw2 : w1.alloc (.cells (pCells 0 0 0 none 0 0) 76) = wx at *
  have hsz : wx.heap.size = w.heap.size + 2 := by rw [← hw2]; simp [hz1]
  have HE : Hid (l.take n = l) := Lib.hid (List.take_of_length_le (by rw [hl.1]; exact Nat.le_refl _))
  clear hal1 hal2 hr1 hl hl1
  go_enter Try.func73, Try.ntmps73
  go_upto_region 1 with fail
  clear hw1 hw2
  have hal3 := alloc_below wx (.cells #[] 128)
  have hown := OwnT.made 128 wx
  rw [hsz] at hal3 hown
  go_wp2
  go_loopg [5, 6] n (fun r u t wr => ∃ (k : Nat) (A5 : Option Addr) (n5 c5 : Nat), k ≤ n ∧ r + k = n ∧ t = .int .i64 k ∧ u = .slice A5 n5 c5 ∧ OwnT 128 wr (w.heap.size + 2) (.slice A5 n5 c5) (dropL s (l.take k)) ∧ Below (w.heap.size + 2) wx wr)
  case atStart => exact ⟨0, some ⟨w.heap.size + 2, 0, none⟩, 0, 0, by omega, by omega, rfl, rfl, hown, hal3⟩
  case round =>
    clear hown hal3
    obtain ⟨k, A5, n5, c5, hk, hr, rfl, rfl, hown, hbr⟩ := hrel
    obtain ⟨⟨c0, c1, c2, c3⟩, f0, f1, f2, f3⟩ := row_facts4p (row_keep2 hr1a hbr (by omega))
    obtain ⟨⟨d0, d1, d2, d3⟩, g0, g1, g2, g3⟩ := row_facts4p (row_keep2 hr2 hbr (by omega))
    by_cases hlt2 : k < n
    · obtain ⟨g, o, x, rfl, hg, HX, x0, x1, x2⟩ := (hl2.step (by rw [hsz]; exact hbr)).at_ hlt2
      have k0 : (0 : Int) ≤ (k : Int) := by omega
      have k1 : (k : Int) < (n : Int) := by omega
      have HS := Lib.hid (dropL_snoc (i := s) HX.out)
      have hfl : (dropL s (l.take k)).length ≤ 1000000 := Nat.le_trans (List.length_filter_le _ _) (by simp; omega)
      have hszr := hbr.size
      generalize dropL s (l.take k) = wl at *
      cases hxb : x.id != s with
      | false =>
        rw [hxb] at HS
        go_wp2
        go_roundg (n - (k + 1))
        case measure => omega
        case rel => exact ⟨k + 1, A5, n5, c5, by omega, by omega, by go_num, rfl, by rw [HS.out]; simpa using hown, hbr⟩
      | true =>
        rw [hxb] at HS
        go_wp2_with
          (at_builtin
           refine wp_appT Try.underlying74 it23_info rfl (.tmp 23) (.tmp 29) rfl (w.heap.size + 2) (.slice A5 n5 c5) wl rfl (hown.step (alloc_below _ _)) (some ⟨wr.heap.size, 0, none⟩) 1 1 [x] rfl ?hr ?hby ?hbase ?_
           case hr => exact one_rdT _ _ _
           case hby => first | omega | (simp; omega)
           case hbase => first | omega | (simp; omega)
           intro A9 n9 c9 w9 hown9 hb9 hg9 hn9)
        have hb9' := hbr.trans (((alloc_below wr (.cells #[.string (bs x.o), .int .i64 x.id, .int .i64 x.wh] 128)).mono (by omega)).trans hb9)
        go_roundg (n - (k + 1))
        case measure => omega
        case rel => exact ⟨k + 1, A9, n9, c9, by omega, by omega, by go_num, rfl, by rw [HS.out]; simpa using hown9, hb9'⟩
    · obtain rfl : k = n := by omega
      rw [HE.out] at hown
      have hbA := bnext hb0 (by rw [hsz]; exact hbr) hb0.size
      clear hl2 hr1a hr2 hb0 hbr
      go_wp2
      refine bodyPost_ret (v := .agg #[.int .i64 m, .int .i64 e, .int .i64 i, .slice A5 n5 c5]) (by simp [results, Try.results73, go_sem, c0, c1, c2, c3, d0, d1, d2, d3]) rfl ⟨A5, n5, c5, rfl, (((((hown.setCell (by simp) _).setCell (by simp) _).setCell (by simp) _).setCell (by simp) _).setCell (by simp) _).mono (by omega), ((((hbA.setCell (by simp) _).setCell (by simp) _).setCell (by simp) _).setCell (by simp) _).setCell (by simp) _⟩
end Go.Proofs.Ytepedjnmliclkaa
