/- Joined texts: Walks of the scan: take, lit, num, month, clock, weekday. A scan is a block of two cells: what is left, and whether all was well; Walks of package date's and its reference's functions for days and civil dates: what each call computes; Walks of package date's and its reference's functions for days and civil dates: what each call computes. The conditions stand in each line. -/
import Derived.Test.YtcaekfebnhedpaaGreatDoorChecked
import Derived.Test.YtcaekfebnhedpaaGreatDoorM1
import Derived.Test.YtcaekfebnhedpaaGreatDoorM7
import Derived.Test.YtcaekfebnhedpaaGreatDoorM20
import Derived.BigRegion
import Derived.WalkKit
import Derived.WalkSpells
import Derived.WalkLawsBesides
import Derived.Lib.Hide
import Derived.Deep.Cut
set_option linter.unusedVariables false
set_option linter.unusedSimpArgs false
namespace Go.Proofs.YtcaekfebnhedpaaGreatDoor
open Go.RowKit

set_option maxRecDepth 100000
def SC (w : World) (b : Nat) (s : List UInt8) (ok : Bool) : Prop := w.heap[b]? = some (.cells #[.string (bs s), .bool ok] 102 (0, 0))
theorem SC.cells {w : World} {b : Nat} {s : List UInt8} {ok : Bool} (h : SC w b s ok) : w.cell? ⟨b, 0, none⟩ = some (.string (bs s)) ∧ w.cell? ⟨b, 1, none⟩ = some (.bool ok) ∧ w.frozen? ⟨b, 0, none⟩ = false ∧ w.frozen? ⟨b, 1, none⟩ = false := by
  unfold SC at h
  refine ⟨?_, ?_, by simp only [World.frozen?, h]; rfl, by simp only [World.frozen?, h]; rfl⟩ <;> (rw [cell_of_row _ _ _ _ _ _ h]; rfl)
theorem SC.lt {w : World} {b : Nat} {s : List UInt8} {ok : Bool} (h : SC w b s ok) : b < w.heap.size := (Array.getElem?_eq_some_iff.1 h).1
theorem SC.set0 {w : World} {b : Nat} {s : List UInt8} {ok : Bool} (h : SC w b s ok) (s' : List UInt8) : SC (w.setCell ⟨b, 0, none⟩ (.string (bs s'))) b s' ok := by
  unfold SC at *
  simp [World.setCell, Array.getElem?_modify, h]
theorem SC.set1 {w : World} {b : Nat} {s : List UInt8} {ok : Bool} (h : SC w b s ok) (ok' : Bool) : SC (w.setCell ⟨b, 1, none⟩ (.bool ok')) b s ok' := by
  unfold SC at *
  simp [World.setCell, Array.getElem?_modify, h]
theorem SC.step {w w' : World} {b : Nat} {s : List UInt8} {ok : Bool} (h : SC w b s ok) (hb : Below w.heap.size w w') : SC w' b s ok := by
  unfold SC at *
  rw [hb.block b (Array.getElem?_eq_some_iff.1 h).1]; exact h
theorem only_set {w w' : World} {b : Nat} (h : w.grownBy w' (some b)) (o : Nat) (u : Value) : w.grownBy (w'.setCell ⟨b, o, none⟩ u) (some b) :=
  ⟨h.os, h.tape, h.output, by simpa [World.setCell] using h.size, fun i hi hne => (Below.heap_setCell w' ⟨b, o, none⟩ u i (by rintro rfl; exact hne rfl)).trans (h.block i hi hne)⟩
theorem only_below {w w' w2 : World} {r : Option Nat} (h : w.grownBy w' r) (hb : Below w'.heap.size w' w2) : w.grownBy w2 r :=
  ⟨hb.os.trans h.os, hb.tape.trans h.tape, hb.output.trans h.output, Nat.le_trans h.size hb.size, fun i hi hne => (hb.block i (Nat.lt_of_lt_of_le hi h.size)).trans (h.block i hi hne)⟩
theorem only_trans {a b c : World} {r : Option Nat} (h : a.grownBy b r) (k : b.grownBy c r) : a.grownBy c r :=
  ⟨k.os.trans h.os, k.tape.trans h.tape, k.output.trans h.output, Nat.le_trans h.size k.size, fun i hi hne => (k.block i (Nat.lt_of_lt_of_le hi h.size) hne).trans (h.block i hi hne)⟩
theorem only_refl (w : World) (r : Option Nat) : w.grownBy w r := ⟨rfl, rfl, rfl, Nat.le_refl _, fun _ _ _ => rfl⟩
/-- "?" so many times. -/
theorem rep_q (n : Nat) (h1 : 1 ≤ n) (h2 : n ≤ 1000) (w : World) : Calls Tryz.prog 148 #[.string ⟨#[63]⟩, .int .i64 n] w fun e w' => e = .returned (.string (bs (List.replicate n 63))) ∧ Below w.heap.size w w' := by
  have e1 : Lib.repeatL [63] n = List.replicate n 63 := by
    have := Lib.repeatL_replicate 63 1 n
    simpa using this
  by_cases h : n = 1
  · subst h
    exact (Tryz.strings_Repeat_one ⟨#[63]⟩ w).mono fun _ _ h => ⟨h.1, by rw [h.2]; exact Below.refl _ _⟩
  · refine (Tryz.strings_Repeat_main ⟨#[63]⟩ n w (by omega) (by omega) (by show 1 * n ≤ _; omega) (by decide)).mono fun _ _ h => ⟨?_, h.2⟩
    rw [h.1]
    unfold bs
    rw [← e1]
theorem take_any (b n : Nat) (s : List UInt8) (ok : Bool) (w : World) (h : SC w b s ok) (h1 : 1 ≤ n) (h2 : n ≤ 1000) (hs : s.length ≤ 4398046511104) :
    Calls Tryz.prog 112 #[.pointer (some ⟨b, 0, none⟩), .int .i64 n] w fun e w' => e = .returned (.string (bs (Dt.take n s ok).1)) ∧ SC w' b (Dt.take n s ok).2.1 (Dt.take n s ok).2.2 ∧ w.grownBy w' (some b) := by
  obtain ⟨c0, c1, f0, f1⟩ := h.cells
  by_cases hl : s.length < n
  · have HT : Hid (Dt.take n s ok = (List.replicate n 63, s, false)) := Lib.hid (by unfold Dt.take; rw [if_pos hl])
    have hR := rep_q n h1 h2
    have H := Lib.hid h
    go_enter Tryz.func112, Tryz.ntmps112
    go_wp2_with fail
    refine (hR _).mono ?_
    rintro e w1 ⟨rfl, hb1⟩
    go_wp2
    go_ret
    refine ⟨ret_str (by rw [HT.out]), ?_, ?_⟩
    · rw [HT.out]
      exact (H.out.set1 false).step hb1
    · exact only_below (only_set (only_refl _ _) _ _) hb1
  · have HT : Hid (Dt.take n s ok = (s.take n, s.drop n, ok)) := Lib.hid (by unfold Dt.take; rw [if_neg hl])
    have H := Lib.hid h
    go_enter Tryz.func112, Tryz.ntmps112
    go_wp2
    go_ret
    refine ⟨ret_str (by rw [HT.out]), ?_, ?_⟩
    · rw [HT.out]
      exact H.out.set0 _
    · exact only_set (only_refl _ _) _ _
theorem lit_any (b : Nat) (want s : List UInt8) (ok : Bool) (w : World) (h : SC w b s ok) (h1 : 1 ≤ want.length) (h2 : want.length ≤ 1000) (hs : s.length ≤ 4398046511104) :
    Calls Tryz.prog 79 #[.pointer (some ⟨b, 0, none⟩), .string (bs want)] w fun e w' => e = .returned (.tuple #[]) ∧ SC w' b (Dt.lit want s ok).1 (Dt.lit want s ok).2 ∧ w.grownBy w' (some b) := by
  have hC := take_any b want.length s ok w h h1 h2 hs
  have HL : Hid (Dt.lit want s ok = ((Dt.take want.length s ok).2.1, (Dt.take want.length s ok).2.2 && ((Dt.take want.length s ok).1 == want))) := Lib.hid rfl
  generalize Dt.take want.length s ok = r at *
  obtain ⟨t, s', ok'⟩ := r
  dsimp only at *
  go_enter Tryz.func79, Tryz.ntmps79
  go_wp2_with fail
  refine hC.mono ?_
  rintro e w1 ⟨rfl, hs1, hg1⟩
  obtain ⟨c0, c1, f0, f1⟩ := hs1.cells
  clear hC
  cases htw : t == want with
  | true =>
    rw [htw] at HL
    have hne : (t != want) = false := by simp [bne, htw]
    go_wp2
    go_end0
    exact ⟨rfl, by rw [HL.out]; simpa using hs1, hg1⟩
  | false =>
    rw [htw] at HL
    have hne : (t != want) = true := by simp [bne, htw]
    go_wp2
    go_end0
    exact ⟨rfl, by rw [HL.out]; simpa using hs1.set1 false, only_set hg1 _ _⟩
theorem atoi_any {t : List UInt8} (hl : t ≠ []) (h : t.all Dt.isD = true) (h18 : t.length ≤ 18) (w : World) : Calls Tryz.prog 76 #[.string (bs t)] w fun e w' => e = .returned (.tuple #[.int .i64 (Dt.val t), .nilIface]) ∧ Below w.heap.size w w' :=
  (Tryz.strconv_Atoi (bs t) (Dt.val t) (by simpa using h18) (Dt.atoi_val hl h) w).mono fun e w' h => ⟨h.1, by obtain ⟨q, h2⟩ := h.2; rw [h2]; exact Lib.bytesWorld_below _ _ _⟩
theorem isD_no {c : UInt8} (h : Dt.isD c = false) : (c.toNat < 48) ∨ (¬ c.toNat < 48 ∧ 57 < c.toNat) := by
  unfold Dt.isD at h
  rcases Nat.lt_or_ge c.toNat 48 with g | g
  · exact .inl g
  · refine .inr ⟨by omega, ?_⟩
    simp at h
    omega
set_option maxHeartbeats 1000000 in
theorem num_any (b n : Nat) (s : List UInt8) (ok : Bool) (w : World) (h : SC w b s ok) (h1 : 1 ≤ n) (h2 : n ≤ 18) (hs : s.length ≤ 4398046511104) :
    Calls Tryz.prog 80 #[.pointer (some ⟨b, 0, none⟩), .int .i64 n] w fun e w' => e = .returned (.int .i64 (Dt.num n s ok).1) ∧ SC w' b (Dt.num n s ok).2.1 (Dt.num n s ok).2.2 ∧ w.grownBy w' (some b) := by
  have hC := take_any b n s ok w h h1 (by omega) hs
  have HL : Hid (Dt.num n s ok = if (Dt.take n s ok).1.all Dt.isD = true then (Dt.val (Dt.take n s ok).1, (Dt.take n s ok).2.1, (Dt.take n s ok).2.2) else (0, (Dt.take n s ok).2.1, false)) := Lib.hid rfl
  have hlen : (Dt.take n s ok).1.length = n := by
    unfold Dt.take
    split
    · simp
    · simp; omega
  generalize Dt.num n s ok = R at *
  generalize Dt.take n s ok = r at *
  obtain ⟨t, s', ok'⟩ := r
  dsimp only at *
  have HN := Lib.hid hlen
  have hln : t.length ≤ 18 := by omega
  clear hlen
  go_enter Tryz.func80, Tryz.ntmps80
  go_wp2_with fail
  refine hC.mono ?_
  rintro e w1 ⟨rfl, hs1, hg1⟩
  obtain ⟨c0, c1, f0, f1⟩ := hs1.cells
  clear hC
  go_wp2
  go_loopg [14] t.length (fun r i wr => ∃ k : Nat, k ≤ t.length ∧ r + k = t.length ∧ i = .int .i64 k ∧ Hid ((t.take k).all Dt.isD = true) ∧ wr = w1)
  case atStart => exact ⟨0, by omega, by omega, rfl, Lib.hid (by simp), rfl⟩
  case round =>
    obtain ⟨k, hk, hr, rfl, HA, rfl⟩ := hrel
    obtain ⟨w1, rfl⟩ : ∃ w1, w1 = wr := ⟨_, rfl⟩
    by_cases hlt : k < t.length
    · have HX := Lib.hid (List.getElem?_eq_getElem hlt)
      have HS := Lib.hid (all_snoc Dt.isD t k hlt)
      have HF := Lib.hid (fun q => all_stop Dt.isD t k hlt q)
      have HB := Lib.hid (fun (q : Dt.isD t[k] = true) => Dt.isD_bd q)
      have HB2 := Lib.hid (fun (q : Dt.isD t[k] = false) => isD_no q)
      have hc255 := t[k].toNat_lt
      cases hd : Dt.isD t[k] with
      | true =>
        obtain ⟨g1, g2⟩ := HB.out hd
        have HAN : Hid ((t.take (k + 1)).all Dt.isD = true) := Lib.hid (by rw [HS.out, HA.out, hd]; rfl)
        clear hd HB HB2 HF HS HX
        go_wp2
        go_roundg (t.length - (k + 1))
        case measure => omega
        case rel => exact ⟨k + 1, by omega, by omega, by go_num, HAN, rfl⟩
      | false =>
        have HFF := Lib.hid (HF.out hd)
        have hcs := HB2.out hd
        have HR : Hid (R = (0, s', false)) := Lib.hid (by rw [HL.out, HFF.out]; rfl)
        clear hd HB HB2 HF HS HX
        rcases hcs with g1 | ⟨g1, g2⟩
        all_goals
          go_wp2
          go_ret
          exact ⟨by rw [HR.out]; rfl, by rw [HR.out]; exact hs1.set1 false, only_set hg1 _ _⟩
    · obtain rfl : k = t.length := by omega
      have hall := all_full Dt.isD t HA.out
      have HR : Hid (R = (Dt.val t, s', ok')) := Lib.hid (by rw [HL.out, if_pos hall])
      have hAt := atoi_any (t := t) (by intro e; rw [e] at HN; have := HN.out; simp at this; omega) hall hln w1
      have hvb := Dt.val_bd hall
      generalize Dt.val t = v at *
      clear HA hall
      go_wp2_with fail
      refine hAt.mono ?_
      rintro e w2 ⟨rfl, hb2⟩
      go_wp2
      go_ret
      exact ⟨by rw [HR.out]; rfl, by rw [HR.out]; exact hs1.step hb2, only_below hg1 hb2⟩
theorem take_le (n : Nat) (s : List UInt8) (ok : Bool) : (Dt.take n s ok).2.1.length ≤ s.length := by
  unfold Dt.take; split
  · exact Nat.le_refl _
  · simp
theorem lit_le (t s : List UInt8) (ok : Bool) : (Dt.lit t s ok).1.length ≤ s.length := take_le ..
theorem num_le (n : Nat) (s : List UInt8) (ok : Bool) : (Dt.num n s ok).2.1.length ≤ s.length := by
  unfold Dt.num; split <;> exact take_le ..
theorem mon_le (s : List UInt8) (ok : Bool) : (Dt.mon s ok).2.1.length ≤ s.length := by
  unfold Dt.mon; split <;> exact take_le ..
theorem clk_le (s : List UInt8) (ok : Bool) : (Dt.clk s ok).2.1.length ≤ s.length := by
  unfold Dt.clk
  dsimp only
  have a1 := num_le 2 s ok
  generalize Dt.num 2 s ok = r1 at *
  have a2 := lit_le [58] r1.2.1 r1.2.2
  generalize Dt.lit [58] r1.2.1 r1.2.2 = r2 at *
  have a3 := num_le 2 r2.1 r2.2
  generalize Dt.num 2 r2.1 r2.2 = r3 at *
  have a4 := lit_le [58] r3.2.1 r3.2.2
  generalize Dt.lit [58] r3.2.1 r3.2.2 = r4 at *
  have a5 := num_le 2 r4.1 r4.2
  omega
theorem week_le (b : Bool) (s : List UInt8) (ok : Bool) : (Dt.week b s ok).2.1.length ≤ s.length := by
  unfold Dt.week; split
  · simp
  · exact Nat.le_refl _
set_option maxHeartbeats 2000000 in
theorem clk_any (b : Nat) (s : List UInt8) (ok : Bool) (w : World) (h : SC w b s ok) (hs : s.length ≤ 4398046511104) :
    Calls Tryz.prog 82 #[.pointer (some ⟨b, 0, none⟩)] w fun e w' => e = .returned (.int .i64 (Dt.clk s ok).1) ∧ SC w' b (Dt.clk s ok).2.1 (Dt.clk s ok).2.2 ∧ w.grownBy w' (some b) := by
  have HC : Hid (Dt.clk s ok = (let h := Dt.num 2 s ok
    let p := Dt.lit [58] h.2.1 h.2.2
    let m := Dt.num 2 p.1 p.2
    let q := Dt.lit [58] m.2.1 m.2.2
    let c := Dt.num 2 q.1 q.2
    (h.1 * 3600 + m.1 * 60 + c.1, c.2.1, c.2.2 && !(decide (23 < h.1) || decide (59 < m.1) || decide (59 < c.1))))) := Lib.hid rfl
  generalize Dt.clk s ok = R at *
  have n1 := num_any b 2 s ok w h (by omega) (by omega) hs
  have d1 := Dt.num_bd 2 s ok
  have l1 := num_le 2 s ok
  generalize Dt.num 2 s ok = r1 at *
  obtain ⟨v1, s1, k1⟩ := r1
  dsimp only at *
  have e1 : (10 : Int) ^ 2 = 100 := by decide
  rw [e1] at d1
  go_enter Tryz.func82, Tryz.ntmps82
  go_wp2_with fail
  refine n1.mono ?_
  rintro e w1 ⟨rfl, hs1, hg1⟩
  clear n1 h
  have n2 := lit_any b [58] s1 k1 w1 hs1 (by simp) (by simp) (by omega)
  have l2 := lit_le [58] s1 k1
  generalize Dt.lit [58] s1 k1 = r2 at *
  obtain ⟨s2, k2⟩ := r2
  dsimp only at *
  go_wp2_with fail
  refine n2.mono ?_
  rintro e w2 ⟨rfl, hs2, hg2⟩
  clear n2 hs1
  have n3 := num_any b 2 s2 k2 w2 hs2 (by omega) (by omega) (by omega)
  have d3 := Dt.num_bd 2 s2 k2
  have l3 := num_le 2 s2 k2
  generalize Dt.num 2 s2 k2 = r3 at *
  obtain ⟨v3, s3, k3⟩ := r3
  dsimp only at *
  rw [e1] at d3
  go_wp2_with fail
  refine n3.mono ?_
  rintro e w3 ⟨rfl, hs3, hg3⟩
  clear n3 hs2
  have n4 := lit_any b [58] s3 k3 w3 hs3 (by simp) (by simp) (by omega)
  have l4 := lit_le [58] s3 k3
  generalize Dt.lit [58] s3 k3 = r4 at *
  obtain ⟨s4, k4⟩ := r4
  dsimp only at *
  go_wp2_with fail
  refine n4.mono ?_
  rintro e w4 ⟨rfl, hs4, hg4⟩
  clear n4 hs3
  have n5 := num_any b 2 s4 k4 w4 hs4 (by omega) (by omega) (by omega)
  have d5 := Dt.num_bd 2 s4 k4
  generalize Dt.num 2 s4 k4 = r5 at *
  obtain ⟨v5, s5, k5⟩ := r5
  dsimp only at *
  rw [e1] at d5
  go_wp2_with fail
  refine n5.mono ?_
  rintro e w5 ⟨rfl, hs5, hg5⟩
  clear n5 hs4 e1
  have HG := Lib.hid (only_trans hg1 (only_trans hg2 (only_trans hg3 (only_trans hg4 hg5))))
  obtain ⟨c0, c1, f0, f1⟩ := hs5.cells
  clear hg1 hg2 hg3 hg4 hg5
  have hcs : (23 < v1) ∨ (¬ 23 < v1 ∧ 59 < v3) ∨ (¬ 23 < v1 ∧ ¬ 59 < v3 ∧ 59 < v5) ∨ (¬ 23 < v1 ∧ ¬ 59 < v3 ∧ ¬ 59 < v5) := by omega
  rcases hcs with g1 | ⟨g1, g2⟩ | ⟨g1, g2, g3⟩ | ⟨g1, g2, g3⟩
  · have HR : Hid (R = (v1 * 3600 + v3 * 60 + v5, s5, false)) := Lib.hid (by rw [HC.out]; simp [g1])
    clear HC
    go_wp2
    go_ret
    exact ⟨by rw [HR.out]; rfl, by rw [HR.out]; exact hs5.set1 false, only_set HG.out _ _⟩
  · have HR : Hid (R = (v1 * 3600 + v3 * 60 + v5, s5, false)) := Lib.hid (by rw [HC.out]; simp [g2])
    clear HC
    go_wp2
    go_ret
    exact ⟨by rw [HR.out]; rfl, by rw [HR.out]; exact hs5.set1 false, only_set HG.out _ _⟩
  · have HR : Hid (R = (v1 * 3600 + v3 * 60 + v5, s5, false)) := Lib.hid (by rw [HC.out]; simp [g3])
    clear HC
    go_wp2
    go_ret
    exact ⟨by rw [HR.out]; rfl, by rw [HR.out]; exact hs5.set1 false, only_set HG.out _ _⟩
  · have HR : Hid (R = (v1 * 3600 + v3 * 60 + v5, s5, k5)) := Lib.hid (by rw [HC.out]; simp [g1, g2, g3])
    clear HC
    go_wp2
    go_ret
    exact ⟨by rw [HR.out]; rfl, by rw [HR.out]; exact hs5, HG.out⟩
end Go.Proofs.YtcaekfebnhedpaaGreatDoor
set_option linter.unusedVariables false
set_option linter.unusedSimpArgs false
namespace Go.Proofs.YtcaekfebnhedpaaGreatDoor
open Go.RowKit
set_option maxHeartbeats 400000 in
theorem leap_any (y : Int) (w : World) (h0 : 0 ≤ y) (h1 : y ≤ 100000) :
    Calls Tryz.prog 129 #[.int .i64 y] w fun e w' => e = .returned (.bool (Cal.lpB y)) ∧ w = w' := by
  go_enter Tryz.func129, Tryz.ntmps129
  go_wp2
  all_goals
    go_ret
    refine ⟨ret_bool ?_, rfl⟩
    unfold Cal.lpB
    rw [Bool.eq_iff_iff]
    simp_all

set_option maxHeartbeats 400000 in
theorem fromCivil_any (y m d : Int) (w : World) (hy : 1 ≤ y) (hy2 : y ≤ 100000) (hm : 1 ≤ m) (hm2 : m ≤ 12) (hd : 1 ≤ d) (hd2 : d ≤ 31) :
    Calls Tryz.prog 149 #[.int .i64 y, .int .i64 m, .int .i64 d] w fun e w' => e = .returned (.int .i64 (Cal.fc y m d)) ∧ w = w' := by
  go_enter Tryz.func149, Tryz.ntmps149
  go_wp2
  all_goals
    go_ret
    refine ⟨ret_int ?_, rfl⟩
    unfold Cal.fc
    first | rw [if_pos ‹_›] | rw [if_neg (by omega)]

theorem ret_tup2 {k k2 : IntKind} {a b a' b' : Int} (h : a = a') (h' : b = b') :
    Ending.returned (.tuple #[.int k a, .int k2 b]) = .returned (.tuple #[.int k a', .int k2 b']) := by rw [h, h']
theorem ret_tup3 {k : IntKind} {a b c a' b' c' : Int} (h : a = a') (h' : b = b') (h'' : c = c') :
    Ending.returned (.tuple #[.int k a, .int k b, .int k c]) = .returned (.tuple #[.int k a', .int k b', .int k c']) := by rw [h, h', h'']

set_option maxHeartbeats 400000 in
theorem toCivil_gen (n era e u o p : Int) (w : World) (hn : 0 ≤ n) (hn2 : n ≤ 3000000) (r0 : 0 ≤ era) (r1 : era ≤ 30) (e0 : 0 ≤ e) (e1 : e ≤ 146096) (y0 : 0 ≤ u) (y1 : u ≤ 399) (o0 : 0 ≤ o) (o1 : o ≤ 365) (p0 : 0 ≤ p) (p1 : p ≤ 11)
    (hr : Hid ((n + 719468) / 146097 = era)) (he : Hid (n + 719468 - era * 146097 = e)) (hu : Hid ((e - e / 1460 + e / 36524 - e / 146096) / 365 = u)) (ho : Hid (e - (365 * u + u / 4 - u / 100) = o)) (hp : Hid ((5 * o + 2) / 153 = p)) :
    Calls Tryz.prog 150 #[.int .i64 n] w fun e w' => e = .returned (.tuple #[.int .i64 (u + era * 400 + if (p + 2) % 12 + 1 ≤ 2 then 1 else 0), .int .i64 ((p + 2) % 12 + 1), .int .i64 (o - (153 * p + 2) / 5 + 1)]) ∧ w = w' := by
  go_enter Tryz.func150, Tryz.ntmps150
  go_upto_region 3 with fail
  rw [hr.out]
  go_upto_region 4 with fail
  rw [he.out]
  go_upto_region 5 with fail
  rw [hu.out]
  go_upto_region 6 with fail
  rw [ho.out]
  go_upto_region 7 with fail
  rw [hp.out]
  go_wp2
  all_goals
    go_ret3
    exact ⟨ret_tup3 rfl rfl rfl, rfl⟩

theorem toCivil_any (n : Int) (w : World) (hn : 0 ≤ n) (hn2 : n ≤ 3000000) :
    Calls Tryz.prog 150 #[.int .i64 n] w fun e w' => e = .returned (.tuple #[.int .i64 (Cal.tcY ((n + 719468) / 146097) ((n + 719468) % 146097)), .int .i64 (Cal.tcM ((n + 719468) % 146097)), .int .i64 (Cal.tcD ((n + 719468) % 146097))]) ∧ w = w' := by
  have e0 : 0 ≤ (n + 719468) % 146097 := by omega
  have e1 : (n + 719468) % 146097 ≤ 146096 := by omega
  obtain ⟨y0, y1⟩ := Cal.yoe_bd _ e0 e1
  obtain ⟨o0, o1, _⟩ := Cal.doy_bd _ e0 e1
  exact toCivil_gen n _ _ (Cal.yoe ((n + 719468) % 146097)) (Cal.doy ((n + 719468) % 146097)) _ w hn hn2 (by omega) (by omega) e0 e1 y0 y1 o0 o1 (by omega) (by omega)
    (Lib.hid rfl) (Lib.hid (by omega)) (Lib.hid rfl) (Lib.hid rfl) (Lib.hid rfl)

set_option maxHeartbeats 4000000 in
theorem length_any (y m : Int) (w : World) (h0 : 0 ≤ y) (h1 : y ≤ 100000) (hm : 1 ≤ m) (hm2 : m ≤ 12) :
    Calls Tryz.prog 128 #[.int .i64 y, .int .i64 m] w fun e w' => e = .returned (.int .i64 (Cal.len y m)) ∧ Below w.heap.size w w' := by
  have a : m = 1 ∨ m = 2 ∨ m = 3 ∨ m = 4 ∨ m = 5 ∨ m = 6 ∨ m = 7 ∨ m = 8 ∨ m = 9 ∨ m = 10 ∨ m = 11 ∨ m = 12 := by omega
  rcases a with rfl | rfl | rfl | rfl | rfl | rfl | rfl | rfl | rfl | rfl | rfl | rfl
  all_goals
    go_enter Tryz.func128, Tryz.ntmps128
    go_wp2_with (go_at_call 129; refine (leap_any _ _ (by omega) (by omega)).mono ?_; rintro e w' ⟨rfl, rfl⟩)
    all_goals
      go_ret
      refine ⟨ret_int ?_, by first | exact Below.refl _ _ | exact (Below.refl _ _).alloc (Nat.le_refl _) _⟩
      first | rfl | (unfold Cal.len; rw [Cal.lp_yes ‹_›]; rfl) | (unfold Cal.len; rw [Cal.lp_no ‹_›]; rfl)

end Go.Proofs.YtcaekfebnhedpaaGreatDoor
set_option linter.unusedVariables false
set_option linter.unusedSimpArgs false
namespace Go.Proofs.YtcaekfebnhedpaaGreatDoor
open Go.RowKit
set_option maxHeartbeats 400000 in
theorem day_yes (y m d : Int) (w : World) (h : Cal.valid y m d) :
    Calls Tryz.prog 113 #[.int .i64 y, .int .i64 m, .int .i64 d] w fun e w' => e = .returned (.tuple #[.int .i64 (Cal.num y m d), .int .i64 0]) ∧ w = w' := by
  obtain ⟨a1, a2, a3, a4, a5, a6⟩ := id h
  have hl := Cal.len_bd y m
  have hf := Cal.fc_num y m d a3 a4
  have hn0 : 0 ≤ Cal.fc y m d := by rw [hf]; have := Cal.dby_bd y a1 (by omega); have := Cal.dbm_nn y m; unfold Cal.num; omega
  have hn1 : Cal.fc y m d ≤ 2932896 := by rw [hf]; have := Cal.dby_mono y 10000 (by omega); have := Cal.dby_max; have := Cal.dbm_top y m a3 a4; unfold Cal.num; omega
  obtain ⟨t1, t2, t3, t4, t5⟩ := Cal.tc_all (Cal.fc y m d) hn0 (by omega)
  obtain ⟨i1, i2, i3⟩ := Cal.num_inj _ _ _ y m d (t4 hn1) h (by rw [t5, hf])
  clear t1 t2 t3 t4 t5
  have H := Lib.hid hf; clear hf
  have H1 : Hid _ := i1; have H2 : Hid _ := i2; have H3 : Hid _ := i3; clear i1 i2 i3
  go_enter Tryz.func113, Tryz.ntmps113
  go_wp2_with (go_at_call 149; refine (fromCivil_any _ _ _ _ (by omega) (by omega) (by omega) (by omega) (by omega) (by omega)).mono ?_; rintro e w' ⟨rfl, rfl⟩)
  refine (toCivil_any _ _ (by omega) (by omega)).mono ?_
  rintro e w' ⟨rfl, rfl⟩
  rw [H1.out, H2.out, H3.out]
  go_wp2
  go_ret2
  exact ⟨ret_tup2 H.out rfl, rfl⟩


set_option maxHeartbeats 400000 in
theorem day_no (y m d : Int) (w : World) (h : ¬ Cal.valid y m d) :
    Calls Tryz.prog 113 #[.int .i64 y, .int .i64 m, .int .i64 d] w fun e w' => e = .returned (.tuple #[.int .i64 0, .int .i64 20]) ∧ w = w' := by
  by_cases hb : 1970 ≤ y ∧ y ≤ 9999 ∧ 1 ≤ m ∧ m ≤ 12 ∧ 1 ≤ d ∧ d ≤ 31
  · obtain ⟨a1, a2, a3, a4, a5, a6⟩ := hb
    have hf := Cal.fc_num y m d a3 a4
    have hdb := Cal.dby_bd y a1 (by omega)
    have hn0 : 0 ≤ Cal.fc y m d := by rw [hf]; have := Cal.dbm_nn y m; unfold Cal.num; omega
    have hn1 : Cal.fc y m d ≤ 2932896 + 3 := by
      rw [hf]; have := Cal.dby_mono y 10000 (by omega); have := Cal.dby_max; have := Cal.dbm_top y m a3 a4; have := Cal.len_bd y m; unfold Cal.num; omega
    obtain ⟨t1, t2, t3, t4, t5⟩ := Cal.tc_all (Cal.fc y m d) hn0 (by omega)
    have hne : ¬ (Cal.tcY ((Cal.fc y m d + 719468) / 146097) ((Cal.fc y m d + 719468) % 146097) = y ∧ Cal.tcM ((Cal.fc y m d + 719468) % 146097) = m ∧ Cal.tcD ((Cal.fc y m d + 719468) % 146097) = d) := by
      rintro ⟨g1, g2, g3⟩
      have hlast : Cal.fc y m d ≤ 2932896 := by
        rcases Int.lt_or_le 2932896 (Cal.fc y m d) with g | g
        · exfalso
          have t4' := Cal.tc_valid (Cal.fc y m d) hn0 (by omega)
          rw [g1, g2, g3] at t4'
          exact h ⟨a1, a2, a3, a4, a5, t4'⟩
        · exact g
      exact h (by have := t4 hlast; rwa [g1, g2, g3] at this)
    clear t1 t2 t3 t4 t5 hf
    have hk : (Cal.tcY ((Cal.fc y m d + 719468) / 146097) ((Cal.fc y m d + 719468) % 146097) != y) = true ∨ (Cal.tcY ((Cal.fc y m d + 719468) / 146097) ((Cal.fc y m d + 719468) % 146097) != y) = false ∧ ((Cal.tcM ((Cal.fc y m d + 719468) % 146097) != m) = true ∨ (Cal.tcM ((Cal.fc y m d + 719468) % 146097) != m) = false ∧ (Cal.tcD ((Cal.fc y m d + 719468) % 146097) != d) = true) := by
      simp only [bne_iff_ne, bne_eq_false_iff_eq]
      by_cases g1 : Cal.tcY ((Cal.fc y m d + 719468) / 146097) ((Cal.fc y m d + 719468) % 146097) = y
      · by_cases g2 : Cal.tcM ((Cal.fc y m d + 719468) % 146097) = m
        · exact Or.inr ⟨g1, Or.inr ⟨g2, fun g3 => hne ⟨g1, g2, g3⟩⟩⟩
        · exact Or.inr ⟨g1, Or.inl g2⟩
      · exact Or.inl g1
    clear hne
    have hk' := Lib.hid hk; clear hk
    go_enter Tryz.func113, Tryz.ntmps113
    go_wp2_with (go_at_call 149; refine (fromCivil_any _ _ _ _ (by omega) (by omega) (by omega) (by omega) (by omega) (by omega)).mono ?_; rintro e w' ⟨rfl, rfl⟩)
    refine (toCivil_any _ _ (by omega) (by omega)).mono ?_
    rintro e w' ⟨rfl, rfl⟩
    obtain hk | ⟨hk, hk1 | ⟨hk1, hk2⟩⟩ := hk'.out
    all_goals
      go_wp2
      go_ret2
      exact ⟨rfl, rfl⟩
  · go_enter Tryz.func113, Tryz.ntmps113
    go_wp2
    all_goals
      go_ret2
      exact ⟨rfl, rfl⟩

end Go.Proofs.YtcaekfebnhedpaaGreatDoor
