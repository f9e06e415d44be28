/- Joined texts: ranges.span and ranges.Parse. The conditions stand in each line. -/
import Derived.Test.YtcaekfebnhedpaaGreatDoorM5
import Derived.Test.YtcaekfebnhedpaaGreatDoorM6
import Derived.Test.YtcaekfebnhedpaaGreatDoorM10
import Derived.Test.YtcaekfebnhedpaaGreatDoorM11
set_option linter.unusedVariables false
set_option linter.unusedSimpArgs false
namespace Go.Proofs.YtcaekfebnhedpaaGreatDoor
open Go.RowKit

set_option maxRecDepth 100000
theorem row_facts2s {w : World} {v0 v1 : Value} {t : TypeId} {B : Nat} (h : w.heap[B]? = some (.cells #[v0, v1] t (0, 0))) :
    w.cell? ⟨B, 0, none⟩ = some v0 ∧ w.cell? ⟨B, 1, none⟩ = some v1 ∧ w.frozen? ⟨B, 0, none⟩ = false ∧ w.frozen? ⟨B, 1, none⟩ = false := by
  refine ⟨?_, ?_, ?_, ?_⟩
  · rw [cell_of_row _ _ _ _ _ _ h]; rfl
  · rw [cell_of_row _ _ _ _ _ _ h]; rfl
  · simp only [World.frozen?, h]; rfl
  · simp only [World.frozen?, h]; rfl
namespace Rg
theorem cutA_len (c : UInt8) (s : List UInt8) : (Ur.cutA c s).length ≤ s.length := by
  have := congrArg List.length (Ur.cut_app c s); rw [List.length_append] at this; omega
theorem cutB_len (c : UInt8) (s : List UInt8) : (Ur.cutB c s).length ≤ s.length := by
  have := congrArg List.length (Ur.cut_app c s); rw [List.length_append] at this
  unfold Ur.cutB; rw [List.length_drop]; omega
/-- What span answers. -/
def spanO (size : Int) (s : List UInt8) (v : Value) : Prop := ∃ x y : Int, v = .tuple #[.agg #[.int .i64 x, .int .i64 y], .bool (spanL size s).isSome] ∧ (∀ p, spanL size s = some p → p = (x, y))
theorem spanO_none {size : Int} {s : List UInt8} (h : spanL size s = none) (x y : Int) : spanO size s (.tuple #[.agg #[.int .i64 x, .int .i64 y], .bool false]) := ⟨x, y, by rw [h]; rfl, fun p hp => by rw [h] at hp; cases hp⟩
theorem spanO_some {size : Int} {s : List UInt8} {x y : Int} (h : spanL size s = some (x, y)) : spanO size s (.tuple #[.agg #[.int .i64 x, .int .i64 y], .bool true]) := ⟨x, y, by rw [h]; rfl, fun p hp => by rw [h] at hp; exact (Option.some.inj hp).symm⟩
end Rg
set_option maxHeartbeats 4000000 in
theorem span_any (s : List UInt8) (size : Int) (w : World) (hM : MaxL w) (hs : s.length ≤ 1073741824) (h0 : 0 ≤ size) (h1 : size ≤ 9223372036854775807) :
    Calls Tryz.prog 31 #[.string (bs s), .int .i64 size] w fun e w' => ∃ v, e = .returned v ∧ Rg.spanO size s v ∧ Below w.heap.size w w' := by
  have hal := alloc_below w (.cells #[.int .i64 0, .int .i64 0] 43)
  have hC := cut_any s 45 _ (maxl_b hM hal) hs
  have hla := Rg.cutA_len 45 s
  have hlb := Rg.cutB_len 45 s
  have hna := Rg.num_bd (Ur.cutA 45 s)
  have hnb := Rg.num_bd (Ur.cutB 45 s)
  have HNA := Lib.hid fun W => number_any (Ur.cutA 45 s) W (by omega)
  have HNB := Lib.hid fun W => number_any (Ur.cutB 45 s) W (by omega)
  unfold numV at HNA HNB
  have HAe : Hid (Ur.cutA 45 s = [] → numL (Ur.cutA 45 s) = -1) := Lib.hid fun h => by rw [h]; rfl
  have HBe : Hid (Ur.cutB 45 s = [] → numL (Ur.cutB 45 s) = -1) := Lib.hid fun h => by rw [h]; rfl
  have HL : Hid (∀ v, Rg.spanO size s v ↔ Rg.spanO size s v) := Lib.hid fun v => Iff.rfl
  have H0 : Hid (Ur.hasC 45 s = false → Rg.spanL size s = none) := Lib.hid fun h => by unfold Rg.spanL; rw [if_pos h]
  have H1 : Hid (Ur.hasC 45 s = true → numL (Ur.cutB 45 s) < 0 → Ur.cutB 45 s ≠ [] → Rg.spanL size s = none) := Lib.hid fun h h2 h3 => by unfold Rg.spanL; rw [if_neg (by rw [h]; decide), if_pos ⟨h2, h3⟩]
  have H2 : Hid (Ur.hasC 45 s = true → ¬ (numL (Ur.cutB 45 s) < 0 ∧ Ur.cutB 45 s ≠ []) → Ur.cutA 45 s = [] → Rg.spanL size s = if numL (Ur.cutB 45 s) < 0 then none else some (size - min (numL (Ur.cutB 45 s)) size, size - 1)) := Lib.hid fun h h2 h3 => by unfold Rg.spanL; rw [if_neg (by rw [h]; decide), if_neg h2, if_pos h3]
  have H3 : Hid (Ur.hasC 45 s = true → ¬ (numL (Ur.cutB 45 s) < 0 ∧ Ur.cutB 45 s ≠ []) → Ur.cutA 45 s ≠ [] → Rg.spanL size s = if numL (Ur.cutA 45 s) < 0 ∨ (0 ≤ numL (Ur.cutB 45 s) ∧ numL (Ur.cutB 45 s) < numL (Ur.cutA 45 s)) then none else some (numL (Ur.cutA 45 s), min (if numL (Ur.cutB 45 s) < 0 then size else numL (Ur.cutB 45 s)) (size - 1))) := Lib.hid fun h h2 h3 => by unfold Rg.spanL; rw [if_neg (by rw [h]; decide), if_neg h2, if_neg h3]
  have HS0 : Hid (Rg.spanL size s = none → ∀ x y, Rg.spanO size s (.tuple #[.agg #[.int .i64 x, .int .i64 y], .bool false])) := Lib.hid fun h x y => Rg.spanO_none h x y
  have HS1 : Hid (∀ x y, Rg.spanL size s = some (x, y) → Rg.spanO size s (.tuple #[.agg #[.int .i64 x, .int .i64 y], .bool true])) := Lib.hid fun x y h => Rg.spanO_some h
  clear HL
  generalize Rg.spanO size s = O at *
  generalize Rg.spanL size s = L at *
  generalize numL (Ur.cutA 45 s) = a at *
  generalize numL (Ur.cutB 45 s) = b at *
  generalize Ur.cutA 45 s = A at *
  generalize Ur.cutB 45 s = B at *
  generalize Ur.hasC 45 s = hc at *
  cases hc with
  | false =>
    have HR := Lib.hid ((HS0.out (H0.out rfl)) 0 0)
    clear HS0 HS1 H0 H1 H2 H3 HAe HBe
    generalize (if b < 0 then (0 : Int) else b) = n0 at HNB
    generalize decide (0 ≤ b) = ok0 at HNB
    go_enter Tryz.func31, Tryz.ntmps31
    go_wp2_with fail
    refine hC.mono ?_
    rintro e w1 ⟨rfl, hb1⟩
    have hr1 := row_keep (heap_alloc_new w _) hb1
    have hbA := bnext hal hb1 hal.size
    go_wp2_with fail
    refine (HNB.out w1).mono ?_
    rintro e w2 ⟨rfl, hb2⟩
    have hr2 := row_keep hr1 hb2
    have hbB := bnext hbA hb2 hbA.size
    obtain ⟨c0, c1, f0, f1⟩ := row_facts2s hr2
    clear hr1 hbA hb1 hb2 HNB hC hal
    go_wp2
    refine bodyPost_ret (v := .tuple #[.agg #[.int .i64 0, .int .i64 0], .bool false]) (by first | (simp [results, Tryz.results31, go_sem, c0, c1]; done) | (simp [results, Tryz.results31, go_sem, c0, c1]; omega)) rfl ⟨_, rfl, HR.out, (hbB.setCell (by simp) _).setCell (by simp) _⟩
  | true =>
    by_cases hbn : b < 0
    · have hdb : decide (0 ≤ b) = false := decide_eq_false (by omega)
      cases B with
      | cons b0 B' =>
        have HR := Lib.hid ((HS0.out (H1.out rfl hbn (by simp))) 0 0)
        have heB : (b0 :: B').isEmpty = false := rfl
        clear HS0 HS1 H0 H1 H2 H3 HAe HBe
        generalize b0 :: B' = B at *
        go_enter Tryz.func31, Tryz.ntmps31
        go_wp2_with fail
        refine hC.mono ?_
        rintro e w1 ⟨rfl, hb1⟩
        have hr1 := row_keep (heap_alloc_new w _) hb1
        have hbA := bnext hal hb1 hal.size
        go_wp2_with fail
        refine (HNB.out w1).mono ?_
        rintro e w2 ⟨rfl, hb2⟩
        have hr2 := row_keep hr1 hb2
        have hbB := bnext hbA hb2 hbA.size
        obtain ⟨c0, c1, f0, f1⟩ := row_facts2s hr2
        clear hr1 hbA hb1 hb2 HNB hC hal
        go_wp2
        refine bodyPost_ret (v := .tuple #[.agg #[.int .i64 0, .int .i64 0], .bool false]) (by first | (simp [results, Tryz.results31, go_sem, c0, c1]; done) | (simp [results, Tryz.results31, go_sem, c0, c1]; omega)) rfl ⟨_, rfl, HR.out, (hbB.setCell (by simp) _).setCell (by simp) _⟩
      | nil =>
        cases A with
        | nil =>
          have HR := Lib.hid ((HS0.out (by rw [H2.out rfl (by simp) rfl, if_pos hbn])) (size - min 0 size) (size - 1))
          have hmin : min 0 size = 0 := by omega
          rw [hmin] at HR
          clear HS0 HS1 H0 H1 H2 H3 HAe HBe
          go_enter Tryz.func31, Tryz.ntmps31
          go_wp2_with fail
          refine hC.mono ?_
          rintro e w1 ⟨rfl, hb1⟩
          have hr1 := row_keep (heap_alloc_new w _) hb1
          have hbA := bnext hal hb1 hal.size
          go_wp2_with fail
          refine (HNB.out w1).mono ?_
          rintro e w2 ⟨rfl, hb2⟩
          have hr2 := row_keep hr1 hb2
          have hbB := bnext hbA hb2 hbA.size
          obtain ⟨c0, c1, f0, f1⟩ := row_facts2s hr2
          clear hr1 hbA hb1 hb2 HNB hC hal
          go_wp2
          refine bodyPost_ret (v := .tuple #[.agg #[.int .i64 (size - 0), .int .i64 (size - 1)], .bool false]) (by simp [results, Tryz.results31, go_sem, c0, c1]) rfl ⟨_, rfl, HR.out, (hbB.setCell (by simp) _).setCell (by simp) _⟩
        | cons a0 A' =>
          have heA : (a0 :: A').isEmpty = false := rfl
          have H4 := Lib.hid (H3.out rfl (by simp) (by simp))
          clear H0 H1 H2 H3 HAe HBe
          generalize a0 :: A' = A at *
          by_cases han : a < 0
          · have hda : decide (0 ≤ a) = false := decide_eq_false (by omega)
            have HR := Lib.hid ((HS0.out (by rw [H4.out, if_pos (.inl han)])) 0 0)
            clear H4 HS0 HS1
            go_enter Tryz.func31, Tryz.ntmps31
            go_wp2_with fail
            refine hC.mono ?_
            rintro e w1 ⟨rfl, hb1⟩
            have hr1 := row_keep (heap_alloc_new w _) hb1
            have hbA := bnext hal hb1 hal.size
            go_wp2_with fail
            refine (HNB.out w1).mono ?_
            rintro e w2 ⟨rfl, hb2⟩
            have hr2 := row_keep hr1 hb2
            have hbB := bnext hbA hb2 hbA.size
            obtain ⟨c0, c1, f0, f1⟩ := row_facts2s hr2
            clear hr1 hbA hb1 hb2 HNB hC hal
            clear c0 c1 f0 f1
            go_wp2_with fail
            refine (HNA.out w2).mono ?_
            rintro e w3 ⟨rfl, hb3⟩
            have hr3 := row_keep hr2 hb3
            have hbC := bnext hbB hb3 hbB.size
            obtain ⟨c0, c1, f0, f1⟩ := row_facts2s hr3
            clear hr2 hbB hb3 HNA
            go_wp2
            refine bodyPost_ret (v := .tuple #[.agg #[.int .i64 0, .int .i64 0], .bool false]) (by first | (simp [results, Tryz.results31, go_sem, c0, c1]; done) | (simp [results, Tryz.results31, go_sem, c0, c1]; omega)) rfl ⟨_, rfl, HR.out, (hbC.setCell (by simp) _).setCell (by simp) _⟩
          · have hda : decide (0 ≤ a) = true := decide_eq_true (by omega)
            have HR := Lib.hid (HS1.out a (min size (size - 1)) (by rw [H4.out, if_neg (by omega), if_pos hbn]))
            have hmin : min size (size - 1) = size - 1 := by omega
            rw [hmin] at HR
            clear H4 HS0 HS1 hmin
            go_enter Tryz.func31, Tryz.ntmps31
            go_wp2_with fail
            refine hC.mono ?_
            rintro e w1 ⟨rfl, hb1⟩
            have hr1 := row_keep (heap_alloc_new w _) hb1
            have hbA := bnext hal hb1 hal.size
            go_wp2_with fail
            refine (HNB.out w1).mono ?_
            rintro e w2 ⟨rfl, hb2⟩
            have hr2 := row_keep hr1 hb2
            have hbB := bnext hbA hb2 hbA.size
            obtain ⟨c0, c1, f0, f1⟩ := row_facts2s hr2
            clear hr1 hbA hb1 hb2 HNB hC hal
            clear c0 c1 f0 f1
            go_wp2_with fail
            refine (HNA.out w2).mono ?_
            rintro e w3 ⟨rfl, hb3⟩
            have hr3 := row_keep hr2 hb3
            have hbC := bnext hbB hb3 hbB.size
            obtain ⟨c0, c1, f0, f1⟩ := row_facts2s hr3
            clear hr2 hbB hb3 HNA
            go_wp2
            refine bodyPost_ret (v := .tuple #[.agg #[.int .i64 a, .int .i64 (size - 1)], .bool true]) (by first | (simp [results, Tryz.results31, go_sem, c0, c1]; done) | (simp [results, Tryz.results31, go_sem, c0, c1]; omega)) rfl ⟨_, rfl, HR.out, (hbC.setCell (by simp) _).setCell (by simp) _⟩
    · have hdb : decide (0 ≤ b) = true := decide_eq_true (by omega)
      cases A with
      | nil =>
        have HR := Lib.hid (HS1.out (size - min b size) (size - 1) (by rw [H2.out rfl (by omega) rfl, if_neg hbn]))
        clear H0 H1 H2 H3 HAe HBe HS0 HS1
        have hmb : 0 ≤ min b size ∧ min b size ≤ size := by omega
        go_enter Tryz.func31, Tryz.ntmps31
        go_wp2_with fail
        refine hC.mono ?_
        rintro e w1 ⟨rfl, hb1⟩
        have hr1 := row_keep (heap_alloc_new w _) hb1
        have hbA := bnext hal hb1 hal.size
        go_wp2_with fail
        refine (HNB.out w1).mono ?_
        rintro e w2 ⟨rfl, hb2⟩
        have hr2 := row_keep hr1 hb2
        have hbB := bnext hbA hb2 hbA.size
        obtain ⟨c0, c1, f0, f1⟩ := row_facts2s hr2
        clear hr1 hbA hb1 hb2 HNB hC hal
        go_wp2
        refine bodyPost_ret (v := .tuple #[.agg #[.int .i64 (size - min b size), .int .i64 (size - 1)], .bool true]) (by first | (simp [results, Tryz.results31, go_sem, c0, c1]; done) | (simp [results, Tryz.results31, go_sem, c0, c1]; omega)) rfl ⟨_, rfl, HR.out, (hbB.setCell (by simp) _).setCell (by simp) _⟩
      | cons a0 A' =>
        have heA : (a0 :: A').isEmpty = false := rfl
        have H4 := Lib.hid (H3.out rfl (by omega) (by simp))
        clear H0 H1 H2 H3 HAe HBe
        generalize a0 :: A' = A at *
        by_cases han : a < 0
        · have hda : decide (0 ≤ a) = false := decide_eq_false (by omega)
          have HR := Lib.hid ((HS0.out (by rw [H4.out, if_pos (.inl han)])) 0 0)
          clear H4 HS0 HS1
          go_enter Tryz.func31, Tryz.ntmps31
          go_wp2_with fail
          refine hC.mono ?_
          rintro e w1 ⟨rfl, hb1⟩
          have hr1 := row_keep (heap_alloc_new w _) hb1
          have hbA := bnext hal hb1 hal.size
          go_wp2_with fail
          refine (HNB.out w1).mono ?_
          rintro e w2 ⟨rfl, hb2⟩
          have hr2 := row_keep hr1 hb2
          have hbB := bnext hbA hb2 hbA.size
          obtain ⟨c0, c1, f0, f1⟩ := row_facts2s hr2
          clear hr1 hbA hb1 hb2 HNB hC hal
          clear c0 c1 f0 f1
          go_wp2_with fail
          refine (HNA.out w2).mono ?_
          rintro e w3 ⟨rfl, hb3⟩
          have hr3 := row_keep hr2 hb3
          have hbC := bnext hbB hb3 hbB.size
          obtain ⟨c0, c1, f0, f1⟩ := row_facts2s hr3
          clear hr2 hbB hb3 HNA
          go_wp2
          refine bodyPost_ret (v := .tuple #[.agg #[.int .i64 0, .int .i64 0], .bool false]) (by first | (simp [results, Tryz.results31, go_sem, c0, c1]; done) | (simp [results, Tryz.results31, go_sem, c0, c1]; omega)) rfl ⟨_, rfl, HR.out, (hbC.setCell (by simp) _).setCell (by simp) _⟩
        · have hda : decide (0 ≤ a) = true := decide_eq_true (by omega)
          by_cases hba : b < a
          · have HR := Lib.hid ((HS0.out (by rw [H4.out, if_pos (.inr ⟨by omega, hba⟩)])) 0 0)
            clear H4 HS0 HS1
            go_enter Tryz.func31, Tryz.ntmps31
            go_wp2_with fail
            refine hC.mono ?_
            rintro e w1 ⟨rfl, hb1⟩
            have hr1 := row_keep (heap_alloc_new w _) hb1
            have hbA := bnext hal hb1 hal.size
            go_wp2_with fail
            refine (HNB.out w1).mono ?_
            rintro e w2 ⟨rfl, hb2⟩
            have hr2 := row_keep hr1 hb2
            have hbB := bnext hbA hb2 hbA.size
            obtain ⟨c0, c1, f0, f1⟩ := row_facts2s hr2
            clear hr1 hbA hb1 hb2 HNB hC hal
            clear c0 c1 f0 f1
            go_wp2_with fail
            refine (HNA.out w2).mono ?_
            rintro e w3 ⟨rfl, hb3⟩
            have hr3 := row_keep hr2 hb3
            have hbC := bnext hbB hb3 hbB.size
            obtain ⟨c0, c1, f0, f1⟩ := row_facts2s hr3
            clear hr2 hbB hb3 HNA
            go_wp2
            refine bodyPost_ret (v := .tuple #[.agg #[.int .i64 0, .int .i64 0], .bool false]) (by first | (simp [results, Tryz.results31, go_sem, c0, c1]; done) | (simp [results, Tryz.results31, go_sem, c0, c1]; omega)) rfl ⟨_, rfl, HR.out, (hbC.setCell (by simp) _).setCell (by simp) _⟩
          · have HR := Lib.hid (HS1.out a (min b (size - 1)) (by rw [H4.out, if_neg (by omega), if_neg hbn]))
            clear H4 HS0 HS1
            go_enter Tryz.func31, Tryz.ntmps31
            go_wp2_with fail
            refine hC.mono ?_
            rintro e w1 ⟨rfl, hb1⟩
            have hr1 := row_keep (heap_alloc_new w _) hb1
            have hbA := bnext hal hb1 hal.size
            go_wp2_with fail
            refine (HNB.out w1).mono ?_
            rintro e w2 ⟨rfl, hb2⟩
            have hr2 := row_keep hr1 hb2
            have hbB := bnext hbA hb2 hbA.size
            obtain ⟨c0, c1, f0, f1⟩ := row_facts2s hr2
            clear hr1 hbA hb1 hb2 HNB hC hal
            clear c0 c1 f0 f1
            go_wp2_with fail
            refine (HNA.out w2).mono ?_
            rintro e w3 ⟨rfl, hb3⟩
            have hr3 := row_keep hr2 hb3
            have hbC := bnext hbB hb3 hbB.size
            obtain ⟨c0, c1, f0, f1⟩ := row_facts2s hr3
            clear hr2 hbB hb3 HNA
            go_wp2
            refine bodyPost_ret (v := .tuple #[.agg #[.int .i64 a, .int .i64 (min b (size - 1))], .bool true]) (by first | (simp [results, Tryz.results31, go_sem, c0, c1]; done) | (simp [results, Tryz.results31, go_sem, c0, c1]; omega)) rfl ⟨_, rfl, HR.out, (hbC.setCell (by simp) _).setCell (by simp) _⟩
end Go.Proofs.YtcaekfebnhedpaaGreatDoor
