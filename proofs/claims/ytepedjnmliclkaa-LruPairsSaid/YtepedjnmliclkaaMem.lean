/- Slices in memory: 'Rd w sz A n xs': a slice of n elements of sz cells each reads as the cells xs; lists of texts and of fields. No program; the conditions stand in each line. -/
import Derived.Test.YtepedjnmliclkaaStr
import Derived.Below
import Derived.Laws.OwnMore
import Derived.Deep.AppendLies
import Derived.Deep.Draws
import Derived.Maps.AppendAt
import Derived.RegionTactic
import Derived.OwnWalk
set_option linter.unusedVariables false
set_option linter.unusedSimpArgs false
namespace Go.Proofs.Ytepedjnmliclkaa
open Go.RowKit

theorem below_drewN {B : Nat} {a w : World} (h : Below B a w) (n : Nat) : Below B a (w.drewN n) := ⟨h.os, h.tape, h.output, h.size, h.block⟩
/-- What a call that only makes memory leaves, behind what was there. -/
theorem bnext {B : Nat} {a b c : World} (h : Below B a b) (k : Below b.heap.size b c) (hB : B ≤ b.heap.size) : Below B a c := h.trans (k.mono hB)

/-- A slice (address A, n elements of sz cells) reads as the cells xs. -/
def Rd (w : World) (sz : Nat) (A : Option Addr) (n : Nat) (xs : List Value) : Prop :=
  xs.length = n * sz ∧ (0 < n → ∃ g o, A = some ⟨g, o, none⟩ ∧ g < w.heap.size ∧ ∀ j u, xs[j]? = some u → w.cell? ⟨g, o + j, none⟩ = some u)

section
variable {w w' : World} {sz n : Nat} {A : Option Addr} {xs : List Value}
theorem Rd.nil (w : World) (sz : Nat) (A : Option Addr) : Rd w sz A 0 [] := ⟨by simp, fun h => absurd h (by omega)⟩
theorem Rd.step (h : Rd w sz A n xs) (hb : Below w.heap.size w w') : Rd w' sz A n xs := by
  refine ⟨h.1, fun hn => ?_⟩
  obtain ⟨g, o, rfl, hg, hc⟩ := h.2 hn
  exact ⟨g, o, rfl, Nat.lt_of_lt_of_le hg hb.size, fun j u hu => (hb.cell (p := ⟨g, o + j, none⟩) hg).trans (hc j u hu)⟩
theorem Rd.same (h : Rd w sz A n xs) (hs : w.heap.size ≤ w'.heap.size) (hb : ∀ g o, A = some ⟨g, o, none⟩ → w'.heap[g]? = w.heap[g]?) : Rd w' sz A n xs := by
  refine ⟨h.1, fun hn => ?_⟩
  obtain ⟨g, o, rfl, hg, hc⟩ := h.2 hn
  exact ⟨g, o, rfl, Nat.lt_of_lt_of_le hg hs, fun j u hu => (World.cell?_of_block (w := w) (hb g o rfl)).trans (hc j u hu)⟩
theorem Rd.of_own {base : Nat} {e : TypeId} {c : Nat} (h : w.ownsRow base e sz (.slice A n c) n xs) : Rd w sz A n xs := by
  refine ⟨h.1, fun hn => ?_⟩
  obtain ⟨g, cap, hv, _, hlt⟩ := h.form hn
  have hA : A = some ⟨g, 0, none⟩ := by injection hv
  subst hA
  refine ⟨g, 0, rfl, hlt, fun j u hu => ?_⟩
  have := h.cells (g := g) rfl j u hu
  rw [show ((⟨g, 0, none⟩ : Addr).add j) = ⟨g, 0 + j, none⟩ from by unfold Addr.add; split <;> simp_all] at this
  exact this
end

/-- Texts, and fields (a name and a value), as cells. -/
def strV (s : List UInt8) : Value := .string (bs s)
def strs (l : List (List UInt8)) : List Value := l.map strV
abbrev Fld := List UInt8 × List UInt8
def fcells : List Fld → List Value
  | [] => []
  | f :: r => strV f.1 :: strV f.2 :: fcells r
theorem fcells_length (l : List Fld) : (fcells l).length = l.length * 2 := by
  induction l with
  | nil => rfl
  | cons f r ih => simp [fcells, ih]; omega
theorem fcells_append (l m : List Fld) : fcells (l ++ m) = fcells l ++ fcells m := by
  induction l with
  | nil => rfl
  | cons f r ih => simp [fcells, ih]
theorem fcells_get1 (l : List Fld) (k : Nat) (h : k < l.length) : (fcells l)[2 * k]? = some (strV l[k].1) := by
  induction l generalizing k with
  | nil => simp at h
  | cons f r ih =>
    cases k with
    | zero => rfl
    | succ k => rw [show 2 * (k + 1) = 2 * k + 1 + 1 from by omega]; simp [fcells]; exact ih k (by simpa using h)
theorem fcells_get2 (l : List Fld) (k : Nat) (h : k < l.length) : (fcells l)[2 * k + 1]? = some (strV l[k].2) := by
  induction l generalizing k with
  | nil => simp at h
  | cons f r ih =>
    cases k with
    | zero => rfl
    | succ k => rw [show 2 * (k + 1) + 1 = 2 * k + 1 + 1 + 1 from by omega]; simp [fcells]; exact ih k (by simpa using h)
theorem fcells_take (l : List Fld) (i : Nat) : fcells (l.take i) = (fcells l).take (i * 2) := by
  induction l generalizing i with
  | nil => simp [fcells]
  | cons f r ih =>
    cases i with
    | zero => simp [fcells]
    | succ i => rw [show (i + 1) * 2 = i * 2 + 1 + 1 from by omega]; simp [fcells, ih i]
theorem strs_length (l : List (List UInt8)) : (strs l).length = l.length := by simp [strs]
theorem strs_get (l : List (List UInt8)) (k : Nat) (h : k < l.length) : (strs l)[k]? = some (strV l[k]) := by simp [strs, h]
theorem strs_one (l : List (List UInt8)) : ∀ u ∈ strs l, u.oneCell' = true := by
  intro u hu; simp only [strs, List.mem_map] at hu; obtain ⟨s, _, rfl⟩ := hu; rfl
theorem fcells_one (l : List Fld) : ∀ u ∈ fcells l, u.oneCell' = true := by
  induction l with
  | nil => intro u hu; simp [fcells] at hu
  | cons f r ih => intro u hu; simp only [fcells, List.mem_cons] at hu; rcases hu with rfl | rfl | hu; rfl; rfl; exact ih u hu

/-- A slice of texts; a slice of fields. -/
def RdS (w : World) (A : Option Addr) (n : Nat) (l : List (List UInt8)) : Prop := l.length = n ∧ Rd w 1 A n (strs l)
def RdF (w : World) (A : Option Addr) (n : Nat) (l : List Fld) : Prop := l.length = n ∧ Rd w 2 A n (fcells l)
section
variable {w w' : World} {n : Nat} {A : Option Addr}
theorem RdS.step {l : List (List UInt8)} (h : RdS w A n l) (hb : Below w.heap.size w w') : RdS w' A n l := ⟨h.1, h.2.step hb⟩
theorem RdF.step {l : List Fld} (h : RdF w A n l) (hb : Below w.heap.size w w') : RdF w' A n l := ⟨h.1, h.2.step hb⟩
theorem RdS.nil (w : World) (A : Option Addr) : RdS w A 0 [] := ⟨rfl, Rd.nil w 1 A⟩
theorem RdF.nil (w : World) (A : Option Addr) : RdF w A 0 [] := ⟨rfl, Rd.nil w 2 A⟩
theorem RdS.at_ {l : List (List UInt8)} (h : RdS w A n l) {k : Nat} (hk : k < n) : ∃ g o s, A = some ⟨g, o, none⟩ ∧ g < w.heap.size ∧ Hid (l[k]? = some s) ∧ w.cell? ⟨g, o + k, none⟩ = some (.string (bs s)) := by
  obtain ⟨g, o, e, hg, hc⟩ := h.2.2 (by omega)
  have hk' : k < l.length := by rw [h.1]; exact hk
  exact ⟨g, o, l[k], e, hg, Lib.hid (List.getElem?_eq_getElem hk'), hc k _ (strs_get l k hk')⟩
theorem RdF.at_ {l : List Fld} (h : RdF w A n l) {k : Nat} (hk : k < n) : ∃ g o nm vl, A = some ⟨g, o, none⟩ ∧ g < w.heap.size ∧ Hid (l[k]? = some (nm, vl)) ∧ w.cell? ⟨g, o + k * 2, none⟩ = some (.string (bs nm)) ∧ w.cell? ⟨g, o + k * 2 + 1, none⟩ = some (.string (bs vl)) := by
  obtain ⟨g, o, e, hg, hc⟩ := h.2.2 (by omega)
  have hk' : k < l.length := by rw [h.1]; exact hk
  refine ⟨g, o, l[k].1, l[k].2, e, hg, Lib.hid (List.getElem?_eq_getElem hk'), ?_, ?_⟩
  · rw [Nat.mul_comm]; exact hc _ _ (fcells_get1 l k hk')
  · rw [Nat.mul_comm, Nat.add_assoc]; exact hc _ _ (fcells_get2 l k hk')
theorem take_snoc? {α : Type} {l : List α} {k : Nat} {x : α} (h : l[k]? = some x) : l.take (k + 1) = l.take k ++ [x] := by
  obtain ⟨hk, rfl⟩ := List.getElem?_eq_some_iff.1 h
  exact take_snoc l k hk
theorem lt_of_get? {α : Type} {l : List α} {k : Nat} {x : α} (h : l[k]? = some x) : k < l.length := (List.getElem?_eq_some_iff.1 h).1
end

theorem mem_of_get? {α : Type} {l : List α} {k : Nat} {x : α} (h : l[k]? = some x) : x ∈ l := by
  obtain ⟨hk, rfl⟩ := List.getElem?_eq_some_iff.1 h
  exact List.getElem_mem hk
/-- All texts of these fields are of a length that is read. -/
def FlenOK (l : List Fld) : Prop := ∀ f ∈ l, f.1.length ≤ 140737488355328 ∧ f.2.length ≤ 140737488355328
def SlenOK (l : List (List UInt8)) : Prop := ∀ s ∈ l, s.length ≤ 140737488355328
theorem keep2 {A B : Addr} {u v : Value} {W0 W W' : World} (h : W.cell? A = some u ∧ W.cell? B = some v ∧ Below W0.heap.size W0 W) (hb : Below W.heap.size W W') : W'.cell? A = some u ∧ W'.cell? B = some v ∧ Below W0.heap.size W0 W' :=
  ⟨(hb.cell (World.block_lt_of_cell? W _ h.1)).trans h.1, (hb.cell (World.block_lt_of_cell? W _ h.2.1)).trans h.2.1, bnext h.2.2 hb h.2.2.size⟩
theorem any_snoc {α : Type} {f : α → Bool} {l : List α} {k : Nat} {x : α} (h : l[k]? = some x) : (l.take (k + 1)).any f = ((l.take k).any f || f x) := by
  rw [take_snoc? h, List.any_append]; simp

theorem filter_snoc {α : Type} {f : α → Bool} {l : List α} {k : Nat} {x : α} (h : l[k]? = some x) : (l.take (k + 1)).filter f = (l.take k).filter f ++ (if f x = true then [x] else []) := by
  rw [take_snoc? h, List.filter_append]
  simp only [List.filter_cons, List.filter_nil]
end Go.Proofs.Ytepedjnmliclkaa
