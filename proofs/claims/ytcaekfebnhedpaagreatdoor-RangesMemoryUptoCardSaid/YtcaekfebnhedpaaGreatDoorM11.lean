/- Joined texts: SameFields: equal lists; Copies and comparisons of requests and responses; rows of four cells. The conditions stand in each line. -/
import Derived.Test.YtcaekfebnhedpaaGreatDoorChecked
import Derived.Test.YtcaekfebnhedpaaGreatDoorM1
import Derived.Test.YtcaekfebnhedpaaGreatDoorM10
import Derived.Deep.QuietTactic
import Derived.BigQuiet
import Derived.Deep.Cut
import Derived.Deep.DeepCutAuto
set_option linter.unusedVariables false
set_option linter.unusedSimpArgs false
namespace Go.Proofs.YtcaekfebnhedpaaGreatDoor
open Go.RowKit

set_option maxHeartbeats 400000 in
theorem sameFields_any (A B : Option Addr) (n m c d : Nat) (l r : List Fld) (w : World) (hl : RdF w A n l) (hr : RdF w B m r) (hn : n ≤ 140737488355328) (hm : m ≤ 140737488355328) :
    Calls Tryz.prog 21 #[.slice A n c, .slice B m d] w fun e w' => e = .returned (.bool (l == r)) ∧ Below w.heap.size w w' := by
  by_cases hnm : n = m
  case neg =>
    have HF : Hid ((l == r) = false) := Lib.hid (by rw [beq_eq_false_iff_ne]; intro h; apply hnm; rw [← hl.1, ← hr.1, h])
    have hnm' : ((n : Int) != (m : Int)) = true := by simp; omega
    go_enter Tryz.func21, Tryz.ntmps21
    go_wp2
    go_ret
    exact ⟨ret_bool HF.out.symm, Below.refl _ _⟩
  subst hnm
  have HN : Hid (∀ k : Nat, ∀ x y : Fld, l[k]? = some x → r[k]? = some y → x ≠ y → (l == r) = false) := Lib.hid fun k x y h1 h2 hne => by
    rw [beq_eq_false_iff_ne]; intro h; subst h; rw [h1] at h2; exact hne (Option.some.inj h2)
  have HT : Hid (l.take n = r.take n → (l == r) = true) := Lib.hid fun h => by
    rw [List.take_of_length_le (by rw [hl.1]; exact Nat.le_refl _), List.take_of_length_le (by rw [hr.1]; exact Nat.le_refl _)] at h; simpa using h
  go_enter Tryz.func21, Tryz.ntmps21
  go_wp2
  go_loopw [5] (fun t wr => ∃ k : Nat, k ≤ n ∧ t = .int .i64 k ∧ l.take k = r.take k ∧ Below w.heap.size w wr) (fun t _ => n - (intOf t).toNat)
  case atStart => exact ⟨0, by omega, rfl, rfl, Below.refl _ _⟩
  case round =>
    obtain ⟨k, hk, rfl, hall, hbr⟩ := hrel
    have HA := Lib.hid hall
    clear hall
    by_cases hlt : k < n
    · obtain ⟨g, o, x1, x2, rfl, hg, HX, hc1, hc2⟩ := (hl.step hbr).at_ hlt
      obtain ⟨g', o', y1, y2, rfl, hg', HY, hd1, hd2⟩ := (hr.step hbr).at_ hlt
      clear hl hr
      have HS : Hid ((x1, x2) = (y1, y2) → l.take (k + 1) = r.take (k + 1)) := Lib.hid fun h => by rw [take_snoc? HX.out, take_snoc? HY.out, HA.out, h]
      have HF : Hid ((x1, x2) ≠ (y1, y2) → (l == r) = false) := Lib.hid fun h => HN.out k _ _ HX.out HY.out h
      have hq := neq_fld x1 x2 y1 y2
      have hgd := eqg_fld
      go_wp2
      go_quiet (fail)
      go_wp2
      · have hne : (x1, x2) ≠ (y1, y2) := by rintro ⟨⟩; simp_all
        go_ret
        exact ⟨ret_bool (HF.out hne).symm, below_drewN hbr _⟩
      · have he : (x1, x2) = (y1, y2) := by simp_all
        go_roundw
        case rel => exact ⟨k + 1, by omega, by go_num, HS.out he, below_drewN hbr _⟩
        case measure => simp [intOf]; omega
    · obtain rfl : k = n := by omega
      go_wp2
      go_ret
      exact ⟨ret_bool (HT.out HA.out).symm, hbr⟩
end Go.Proofs.YtcaekfebnhedpaaGreatDoor
set_option linter.unusedVariables false
set_option linter.unusedSimpArgs false
namespace Go.Proofs.YtcaekfebnhedpaaGreatDoor
open Go.RowKit

def reqV (m t : List UInt8) (minor : Int) (A : Option Addr) (n c : Nat) : Value := .agg #[.string (bs m), .string (bs t), .int .i64 minor, .slice A n c]
def respV (st : Int) (rs : List UInt8) (minor : Int) (A : Option Addr) (n c : Nat) : Value := .agg #[.int .i64 st, .string (bs rs), .int .i64 minor, .slice A n c]
/-- A row of the call's own stays behind a call that only makes memory. -/
theorem row_keep {w w' : World} {cs : Array Value} {t : TypeId} {B : Nat} (h : w.heap[B]? = some (.cells cs t (0, 0))) (hb : Below w.heap.size w w') : w'.heap[B]? = some (.cells cs t (0, 0)) := by
  rw [hb.block B (by exact (Array.getElem?_eq_some_iff.1 h).1)]; exact h
theorem row_facts4 {w : World} {v0 v1 v2 v3 : Value} {t : TypeId} {B : Nat} (h : w.heap[B]? = some (.cells #[v0, v1, v2, v3] t (0, 0))) :
    w.cell? ⟨B, 0, none⟩ = some v0 ∧ w.cell? ⟨B, 1, none⟩ = some v1 ∧ w.cell? ⟨B, 2, none⟩ = some v2 ∧ w.cell? ⟨B, 3, none⟩ = some v3 ∧ w.frozen? ⟨B, 0, none⟩ = false ∧ w.frozen? ⟨B, 1, none⟩ = false ∧ w.frozen? ⟨B, 2, none⟩ = false ∧ w.frozen? ⟨B, 3, none⟩ = false := by
  refine ⟨?_, ?_, ?_, ?_, ?_, ?_, ?_, ?_⟩
  iterate 4 (rw [cell_of_row _ _ _ _ _ _ h]; rfl)
  all_goals (simp only [World.frozen?, h]; rfl)
theorem own_setCell {w : World} {base : Nat} {e : TypeId} {size n : Nat} {v : Value} {xs : List Value} (h : w.ownsRow base e size v n xs) {p : Addr} (hp : p.block < base) (u : Value) : (w.setCell p u).ownsRow base e size v n xs :=
  h.kept (row := some p.block) ⟨rfl, rfl, rfl, by simp [World.setCell], fun i _ hne => Below.heap_setCell w p u i (fun he => hne (by rw [he]))⟩ (by
    cases hv : v.ownBlock with
    | none => simp
    | some k =>
      have := (h.lt k hv).1
      simp; omega)
theorem OwnF.setCell {w : World} {B : Nat} {v : Value} {l : List Fld} (h : OwnF w B v l) {p : Addr} (hp : p.block < B) (u : Value) : OwnF (w.setCell p u) B v l := own_setCell h hp u
set_option maxHeartbeats 1000000 in
theorem copyResponse_any (st : Int) (rs : List UInt8) (minor : Int) (A : Option Addr) (n c : Nat) (l : List Fld) (w : World) (hl : RdF w A n l) (hn : n ≤ 1048576) :
    Calls Tryz.prog 15 #[respV st rs minor A n c] w fun e w' => ∃ A' n' c', e = .returned (respV st rs minor A' n' c') ∧ RdF w' A' n' l ∧ Below w.heap.size w w' := by
  unfold respV
  have hal1 := alloc_below w (.cells #[.int .i64 st, .string (bs rs), .int .i64 minor, .slice A n c] 31)
  have hr1 := heap_alloc_new w (.cells #[.int .i64 st, .string (bs rs), .int .i64 minor, .slice A n c] 31)
  have hal2 := alloc_below (w.alloc (.cells #[.int .i64 st, .string (bs rs), .int .i64 minor, .slice A n c] 31)) (.cells #[.int .i64 0, .string ⟨#[]⟩, .int .i64 0, .slice none 0 0] 31)
  have hb0 := bnext hal1 hal2 hal1.size
  have hl2 := (hl.step hal1).step hal2
  have hr2 := heap_alloc_new (w.alloc (.cells #[.int .i64 st, .string (bs rs), .int .i64 minor, .slice A n c] 31)) (.cells #[.int .i64 0, .string ⟨#[]⟩, .int .i64 0, .slice none 0 0] 31)
  rw [show (w.alloc (.cells #[.int .i64 st, .string (bs rs), .int .i64 minor, .slice A n c] 31)).heap.size = w.heap.size + 1 by simp] at hr2
  have hr1a := row_keep hr1 hal2
  have hC := copyFields_own A n c l _ hl2 (by omega)
  clear hal1 hal2 hl hl2 hr1
  go_enter Tryz.func15, Tryz.ntmps15
  go_wp2_with fail
  refine hC.mono ?_
  rintro e w1 ⟨A', n', c', rfl, hown, hb1⟩
  have hr1b := row_keep hr1a hb1
  have hr2b := row_keep hr2 hb1
  have hbA := bnext hb0 hb1 hb0.size
  have hrd := hown.rd
  have hlt : w.heap.size + 2 ≤ w1.heap.size := by have := hb1.size; simpa using this
  obtain ⟨a0, a1, a2, a3, g0, g1, g2, g3⟩ := row_facts4 hr1b
  obtain ⟨c0, c1, c2, c3, f0, f1, f2, f3⟩ := row_facts4 hr2b
  clear hr1a hr2 hr1b hr2b hb1 hb0 hC
  rw [show ((w.alloc (.cells #[.int .i64 st, .string (bs rs), .int .i64 minor, .slice A n c] 31)).alloc (.cells #[.int .i64 0, .string ⟨#[]⟩, .int .i64 0, .slice none 0 0] 31)).heap.size = w.heap.size + 2 by simp] at hown
  go_wp2
  refine bodyPost_ret (v := .agg #[.int .i64 st, .string (bs rs), .int .i64 minor, .slice A' n' c']) (by simp [results, Tryz.results15, go_sem, c0, c1, c2, c3]) rfl ⟨A', n', c', rfl, (((((hown.setCell (by simp) _).setCell (by simp) _).setCell (by simp) _).setCell (by simp) _).setCell (by simp) _).rd, ((((hbA.setCell (by simp) _).setCell (by simp) _).setCell (by simp) _).setCell (by simp) _).setCell (by simp) _⟩
set_option maxHeartbeats 1000000 in
theorem sameResponse_any (st : Int) (rs : List UInt8) (minor : Int) (A B : Option Addr) (n c n' c' : Nat) (l : List Fld) (w : World) (hl : RdF w A n l) (hr : RdF w B n' l) (hn : n ≤ 1048576) (hn' : n' ≤ 1048576) :
    Calls Tryz.prog 19 #[respV st rs minor A n c, respV st rs minor B n' c'] w fun e w' => e = .returned (.bool true) ∧ Below w.heap.size w w' := by
  unfold respV
  have hal1 := alloc_below w (.cells #[.int .i64 st, .string (bs rs), .int .i64 minor, .slice A n c] 31)
  have hal2 := alloc_below (w.alloc (.cells #[.int .i64 st, .string (bs rs), .int .i64 minor, .slice A n c] 31)) (.cells #[.int .i64 st, .string (bs rs), .int .i64 minor, .slice B n' c'] 31)
  have hb0 := bnext hal1 hal2 hal1.size
  have hS := sameFields_any A B n n' c c' l l _ ((hl.step hal1).step hal2) ((hr.step hal1).step hal2) (by omega) (by omega)
  rw [show (l == l) = true by simp] at hS
  have q1 : (st == st) = true := by simp
  have q2 : (rs == rs) = true := by simp
  have q3 : (minor == minor) = true := by simp
  clear hal1 hal2 hl hr
  go_enter Tryz.func19, Tryz.ntmps19
  go_wp2_with fail
  refine hS.mono ?_
  rintro e w1 ⟨rfl, hb1⟩
  go_wp2
  go_ret
  exact ⟨rfl, bnext hb0 hb1 hb0.size⟩
end Go.Proofs.YtcaekfebnhedpaaGreatDoor
