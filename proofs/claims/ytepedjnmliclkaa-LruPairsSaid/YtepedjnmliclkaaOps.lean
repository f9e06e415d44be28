/- Scripts of steps as they are read; cut; SameInts; alive of the pool's laws. Conditions: lengths that are lengths of slices. -/
import Derived.Test.YtepedjnmliclkaaPoolPut
import Derived.Deep.QuietTactic
import Derived.BigQuiet
set_option linter.unusedVariables false
set_option linter.unusedSimpArgs false
namespace Go.Proofs.Ytepedjnmliclkaa
open Go.RowKit

/-- A step: what, a text, two numbers. -/
structure Op4 where
  w : Int
  k : List UInt8
  a : Int
  b : Int
def opC : List Op4 → List Value
  | [] => []
  | f :: r => .int .i64 f.w :: .string (bs f.k) :: .int .i64 f.a :: .int .i64 f.b :: opC r
theorem opC_length (l : List Op4) : (opC l).length = l.length * 4 := by
  induction l with
  | nil => rfl
  | cons f r ih => simp [opC, ih]; omega
theorem opC_get (l : List Op4) (k : Nat) (h : k < l.length) : (opC l)[k * 4]? = some (.int .i64 l[k].w) ∧ (opC l)[k * 4 + 1]? = some (.string (bs l[k].k)) ∧ (opC l)[k * 4 + 2]? = some (.int .i64 l[k].a) ∧ (opC l)[k * 4 + 3]? = some (.int .i64 l[k].b) := by
  induction l generalizing k with
  | nil => simp at h
  | cons f r ih =>
    cases k with
    | zero => exact ⟨rfl, rfl, rfl, rfl⟩
    | succ k =>
      obtain ⟨h1, h2, h3, h4⟩ := ih k (by simpa using h)
      rw [show (k + 1) * 4 = k * 4 + 1 + 1 + 1 + 1 by omega, show k * 4 + 1 + 1 + 1 + 1 + 1 = k * 4 + 1 + 1 + 1 + 1 + 1 from rfl]
      refine ⟨?_, ?_, ?_, ?_⟩
      · simpa [opC] using h1
      · rw [show k * 4 + 1 + 1 + 1 + 1 + 1 = (k * 4 + 1) + 1 + 1 + 1 + 1 by omega]; simpa [opC] using h2
      · rw [show k * 4 + 1 + 1 + 1 + 1 + 2 = (k * 4 + 2) + 1 + 1 + 1 + 1 by omega]; simpa [opC] using h3
      · rw [show k * 4 + 1 + 1 + 1 + 1 + 3 = (k * 4 + 3) + 1 + 1 + 1 + 1 by omega]; simpa [opC] using h4
theorem opC_take (l : List Op4) (i : Nat) : opC (l.take i) = (opC l).take (i * 4) := by
  induction l generalizing i with
  | nil => simp [opC]
  | cons f r ih =>
    cases i with
    | zero => simp [opC]
    | succ i => rw [show (i + 1) * 4 = i * 4 + 1 + 1 + 1 + 1 from by omega]; simp [opC, ih i]
def RdO (w : World) (A : Option Addr) (n : Nat) (l : List Op4) : Prop := l.length = n ∧ Rd w 4 A n (opC l)
theorem RdO.step {w w' : World} {A : Option Addr} {n : Nat} {l : List Op4} (h : RdO w A n l) (hb : Below w.heap.size w w') : RdO w' A n l := ⟨h.1, h.2.step hb⟩
theorem RdO.nil (w : World) (A : Option Addr) : RdO w A 0 [] := ⟨rfl, Rd.nil w 4 A⟩
theorem RdO.at_ {w : World} {A : Option Addr} {n : Nat} {l : List Op4} (h : RdO w A n l) {k : Nat} (hk : k < n) : ∃ g o x, A = some ⟨g, o, none⟩ ∧ g < w.heap.size ∧ Hid (l[k]? = some x) ∧
    w.cell? ⟨g, o + k * 4, none⟩ = some (.int .i64 x.w) ∧ w.cell? ⟨g, o + k * 4 + 1, none⟩ = some (.string (bs x.k)) ∧ w.cell? ⟨g, o + k * 4 + 2, none⟩ = some (.int .i64 x.a) ∧ w.cell? ⟨g, o + k * 4 + 3, none⟩ = some (.int .i64 x.b) := by
  obtain ⟨g, o, e, hg, hc⟩ := h.2.2 (by omega)
  have hk' : k < l.length := by rw [h.1]; exact hk
  obtain ⟨h1, h2, h3, h4⟩ := opC_get l k hk'
  refine ⟨g, o, l[k], e, hg, Lib.hid (List.getElem?_eq_getElem hk'), hc _ _ h1, ?_, ?_, ?_⟩
  · rw [Nat.add_assoc]; exact hc _ _ h2
  · rw [Nat.add_assoc]; exact hc _ _ h3
  · rw [Nat.add_assoc]; exact hc _ _ h4
theorem RdO.take {w : World} {A : Option Addr} {n : Nat} {l : List Op4} (h : RdO w A n l) {k : Nat} (hk : k ≤ n) : RdO w A k (l.take k) := by
  have hl := h.1
  refine ⟨by simp; omega, by rw [opC_length]; simp; omega, fun hp => ?_⟩
  obtain ⟨g, o, e, hg, hc⟩ := h.2.2 (by omega)
  refine ⟨g, o, e, hg, fun j u hu => hc j u ?_⟩
  rw [opC_take] at hu
  have := (List.getElem?_eq_some_iff.1 hu).1
  rw [List.getElem?_take_of_lt (by simp at this; omega)] at hu
  exact hu
theorem cut_back {w w' : World} {A : Option Addr} {n m : Nat} {l : List Op4} (hA : RdO w A n l) (h : RdO w' A m (l.take 300)) : RdO w A m (l.take 300) := by
  have h1 := hA.1
  have h2 := h.1
  simp at h2
  have h3 := hA.take (k := m) (by omega)
  have e : l.take m = l.take 300 := by
    by_cases h : l.length ≤ 300
    · rw [List.take_of_length_le (by omega), List.take_of_length_le h]
    · rw [show m = 300 by omega]
  rwa [e] at h3
theorem cutP_any (A : Option Addr) (n c : Nat) (l : List Op4) (w : World) (hl : RdO w A n l) (hnc : n ≤ c) (hcm : c ≤ 9223372036854775807) :
    Calls Try.prog 44 #[.slice A n c] w fun e w' => ∃ m, e = .returned (.slice A m c) ∧ m ≤ 300 ∧ m ≤ c ∧ RdO w A m (l.take 300) ∧ w = w' := by
  by_cases h : n ≤ 300
  · have h1 : ¬ (300 : Int) < (n : Int) := by omega
    have HT : Hid (l.take 300 = l) := Lib.hid (List.take_of_length_le (by rw [hl.1]; exact h))
    go_enter Try.func44, Try.ntmps44
    go_wp2
    go_ret
    exact ⟨n, rfl, h, hnc, by rw [HT.out]; exact hl, rfl⟩
  · have h1 : (300 : Int) < (n : Int) := by omega
    have h2 : (300 : Int) ≤ (c : Int) := by omega
    have HT := Lib.hid (hl.take (k := 300) (by omega))
    go_enter Try.func44, Try.ntmps44
    go_wp2
    go_ret
    exact ⟨300, rfl, by omega, by omega, HT.out, rfl⟩
set_option maxHeartbeats 400000 in
theorem sameInts_any (A B : Option Addr) (n m c d : Nat) (l r : List Int) (w : World) (hl : RdI w A n l) (hr : RdI w B m r) (hn : n ≤ 140737488355328) (hm : m ≤ 140737488355328) :
    Calls Try.prog 49 #[.slice A n c, .slice B m d] w fun e w' => e = .returned (.bool (l == r)) ∧ Below w.heap.size w w' := by
  by_cases hnm : n = m
  case neg =>
    have HF : Hid ((l == r) = false) := Lib.hid (by rw [beq_eq_false_iff_ne]; intro h; apply hnm; rw [← hl.1, ← hr.1, h])
    have hnm' : ((n : Int) != (m : Int)) = true := by simp; omega
    go_enter Try.func49, Try.ntmps49
    go_wp2
    go_ret
    exact ⟨ret_bool HF.out.symm, Below.refl _ _⟩
  subst hnm
  have HN : Hid (∀ k : Nat, ∀ x y : Int, l[k]? = some x → r[k]? = some y → x ≠ y → (l == r) = false) := Lib.hid fun k x y h1 h2 hne => by
    rw [beq_eq_false_iff_ne]; intro h; subst h; rw [h1] at h2; exact hne (Option.some.inj h2)
  have HT : Hid (l.take n = r.take n → (l == r) = true) := Lib.hid fun h => by
    rw [List.take_of_length_le (by rw [hl.1]; exact Nat.le_refl _), List.take_of_length_le (by rw [hr.1]; exact Nat.le_refl _)] at h; simpa using h
  go_enter Try.func49, Try.ntmps49
  go_wp2
  go_loopw [5] (fun t wr => ∃ k : Nat, k ≤ n ∧ t = .int .i64 k ∧ l.take k = r.take k ∧ Below w.heap.size w wr) (fun t _ => n - (intOf t).toNat)
  case atStart => exact ⟨0, by omega, rfl, rfl, Below.refl _ _⟩
  case round =>
    obtain ⟨k, hk, rfl, hall, hbr⟩ := hrel
    have HA := Lib.hid hall
    clear hall
    by_cases hlt : k < n
    · obtain ⟨g, o, x, rfl, hg, HX, hc1⟩ := (hl.step hbr).at_ hlt
      obtain ⟨g', o', y, rfl, hg', HY, hd1⟩ := (hr.step hbr).at_ hlt
      clear hl hr
      have HS : Hid (x = y → l.take (k + 1) = r.take (k + 1)) := Lib.hid fun h => by rw [take_snoc? HX.out, take_snoc? HY.out, HA.out, h]
      have HF : Hid (x ≠ y → (l == r) = false) := Lib.hid fun h => HN.out k _ _ HX.out HY.out h
      by_cases hxy : x = y
      · have hb : (x != y) = false := by simp [hxy]
        have HXY := Lib.hid hxy
        clear hxy
        go_wp2
        go_quiet (fail)
        go_wp2
        go_roundw
        case rel => exact ⟨k + 1, by omega, by go_num, HS.out HXY.out, below_drewN hbr _⟩
        case measure => simp [intOf]; omega
      · have hb : (x != y) = true := by simp [hxy]
        go_wp2
        go_quiet (fail)
        go_wp2
        go_ret
        exact ⟨ret_bool (HF.out hxy).symm, below_drewN hbr _⟩
    · obtain rfl : k = n := by omega
      go_wp2
      go_ret
      exact ⟨ret_bool (HT.out HA.out).symm, hbr⟩
end Go.Proofs.Ytepedjnmliclkaa
