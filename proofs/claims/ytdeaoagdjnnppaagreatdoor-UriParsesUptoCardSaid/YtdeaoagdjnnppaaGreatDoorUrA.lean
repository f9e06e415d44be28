/- Authority, the program's. Conditions: the text's length at most 2^30; the library's variable MaxLen holds some int. -/
import Derived.Test.YtdeaoagdjnnppaaGreatDoorUrW
set_option linter.unusedVariables false
set_option linter.unusedSimpArgs false
namespace Go.Proofs.YtdeaoagdjnnppaaGreatDoor
open Go.RowKit

set_option maxRecDepth 100000
theorem row_set3 {w : World} {B : Nat} {t : TypeId} {v0 v1 v2 a b c : Value} (h : w.heap[B]? = some (.cells #[v0, v1, v2] t (0, 0))) : (((w.setCell ⟨B, 0, none⟩ a).setCell ⟨B, 1, none⟩ b).setCell ⟨B, 2, none⟩ c).heap[B]? = some (.cells #[a, b, c] t (0, 0)) := by
  simp [World.setCell, Array.getElem?_modify, h]
def resV (x : Ur.Tgt × Int) : Value := .tuple #[Ur.tgtV x.1, .int .i64 x.2]
set_option maxHeartbeats 1000000 in
theorem auth_any (s : List UInt8) (w : World) (hM : MaxL w) (hs : s.length ≤ 1073741824) :
    Calls Tryz.prog 9 #[.string (bs s)] w fun e w' => e = .returned (resV (Ur.authL s)) ∧ Below w.heap.size w w' := by
  have HL : Hid (Ur.authL s = if 4096 < s.length then (Ur.noT, 101) else if Ur.hostB (Ur.cutA 58 s) = false then (Ur.noT, 32) else if Ur.portV (Ur.cutB 58 s) = 0 then (Ur.noT, 33) else ((fold (Ur.cutA 58 s), Ur.portV (Ur.cutB 58 s), []), 0)) := Lib.hid rfl
  have hal := alloc_below w (.cells #[.string ⟨#[]⟩, .int .i64 0, .string ⟨#[]⟩] 24)
  have hnew := heap_alloc_new w (.cells #[.string ⟨#[]⟩, .int .i64 0, .string ⟨#[]⟩] 24)
  have hM1 := maxl_b hM hal
  generalize Ur.authL s = R at *
  by_cases hlen : 4096 < s.length
  · have HR : Hid (R = (Ur.noT, 101)) := Lib.hid (by rw [HL.out, if_pos hlen])
    obtain ⟨c0, c1, c2, f0, f1, f2⟩ := row_facts3 hnew
    go_enter Tryz.func9, Tryz.ntmps9
    go_wp2
    refine bodyPost_ret (v := resV (Ur.noT, 101)) (by simp [results, Tryz.results9, go_sem, c0, c1, c2, Ur.tgtV, Ur.noT, bs, resV]) rfl ⟨by rw [HR.out], by first | exact hal | exact ((hal.setCell (by simp) _).setCell (by simp) _).setCell (by simp) _⟩
  have hH := isHost_any (Ur.cutA 58 s)
  have hP := port_any (Ur.cutB 58 s)
  have hF := fold_any (Ur.cutA 58 s)
  have hC := cut_any s 58 _ hM1 hs
  unfold portE at hP
  rw [if_neg hlen] at HL
  have hlA := Ur.cutA_le 58 s
  have hlB := Ur.cutB_le 58 s
  generalize Ur.cutA 58 s = A at *
  generalize Ur.cutB 58 s = B at *
  generalize Ur.hasC 58 s = H at *
  cases hh : Ur.hostB A with
  | false =>
    have HR : Hid (R = (Ur.noT, 32)) := Lib.hid (by rw [HL.out, if_pos hh])
    rw [hh] at hH
    clear HL hh hP hF
    go_enter Tryz.func9, Tryz.ntmps9
    go_wp2_with fail
    refine hC.mono ?_
    rintro e w1 ⟨rfl, hb1⟩
    have hr1 := row_keep hnew hb1
    obtain ⟨c0, c1, c2, f0, f1, f2⟩ := row_facts3 hr1
    have hB1 := bnext hal hb1 hal.size
    clear hC hnew hb1
    go_wp2_with fail
    refine (hH _ (by omega)).mono ?_
    rintro e w2 ⟨rfl, rfl⟩
    clear hH
    go_wp2
    refine bodyPost_ret (v := resV (Ur.noT, 32)) (by simp [results, Tryz.results9, go_sem, c0, c1, c2, Ur.tgtV, Ur.noT, bs, resV]) rfl ⟨by rw [HR.out], by first | exact hB1 | exact ((hB1.setCell (by simp) _).setCell (by simp) _).setCell (by simp) _⟩
  | true =>
    rw [hh] at hH
    by_cases hp : Ur.portV B = 0
    · have HR : Hid (R = (Ur.noT, 33)) := Lib.hid (by rw [HL.out, if_neg (by rw [hh]; simp), if_pos hp])
      rw [hp] at hP
      clear HL hh hF hp
      go_enter Tryz.func9, Tryz.ntmps9
      go_wp2_with fail
      refine hC.mono ?_
      rintro e w1 ⟨rfl, hb1⟩
      have hr1 := row_keep hnew hb1
      have hB1 := bnext hal hb1 hal.size
      clear hC hnew hb1
      go_wp2_with fail
      refine (hH _ (by omega)).mono ?_
      rintro e w2 ⟨rfl, rfl⟩
      clear hH
      go_wp2_with fail
      refine (hP _ (by omega)).mono ?_
      rintro e w3 ⟨rfl, hb3⟩
      obtain ⟨c0, c1, c2, f0, f1, f2⟩ := row_facts3 (row_keep hr1 hb3)
      have hB3 := bnext hB1 hb3 hB1.size
      clear hP
      go_wp2
      refine bodyPost_ret (v := resV (Ur.noT, 33)) (by simp [results, Tryz.results9, go_sem, c0, c1, c2, Ur.tgtV, Ur.noT, bs, resV]) rfl ⟨by rw [HR.out], by first | exact hB3 | exact ((hB3.setCell (by simp) _).setCell (by simp) _).setCell (by simp) _⟩
    · have HR : Hid (R = ((fold A, Ur.portV B, []), 0)) := Lib.hid (by rw [HL.out, if_neg (by rw [hh]; simp), if_neg hp])
      rw [if_neg hp] at hP
      generalize Ur.portV B = p at *
      generalize fold A = FA at *
      clear HL hh
      go_enter Tryz.func9, Tryz.ntmps9
      go_wp2_with fail
      refine hC.mono ?_
      rintro e w1 ⟨rfl, hb1⟩
      have hr1 := row_keep hnew hb1
      have hB1 := bnext hal hb1 hal.size
      clear hC hnew hb1
      go_wp2_with fail
      refine (hH _ (by omega)).mono ?_
      rintro e w2 ⟨rfl, rfl⟩
      clear hH
      go_wp2_with fail
      refine (hP _ (by omega)).mono ?_
      rintro e w3 ⟨rfl, hb3⟩
      have hr3 := row_keep hr1 hb3
      have hB3 := bnext hB1 hb3 hB1.size
      clear hP
      go_wp2_with fail
      refine (hF _ (by omega)).mono ?_
      rintro e w4 ⟨rfl, hb4⟩
      obtain ⟨c0, c1, c2, f0, f1, f2⟩ := row_facts3 (row_keep hr3 hb4)
      have hB4 := bnext hB3 hb4 hB3.size
      clear hF
      go_wp2
      refine bodyPost_ret (v := resV ((FA, p, []), 0)) (by simp [results, Tryz.results9, go_sem, c0, c1, c2, Ur.tgtV, Ur.noT, bs, resV]) rfl ⟨by rw [HR.out], by first | exact hB4 | exact ((hB4.setCell (by simp) _).setCell (by simp) _).setCell (by simp) _⟩
end Go.Proofs.YtdeaoagdjnnppaaGreatDoor
