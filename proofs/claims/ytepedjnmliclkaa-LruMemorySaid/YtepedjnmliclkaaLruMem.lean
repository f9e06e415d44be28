/- Marks written into rows of texts of the call's own: the table and the document's table stay. Conditions stand in each line. -/
import Derived.Test.YtepedjnmliclkaaLruN
set_option linter.unusedVariables false
set_option linter.unusedSimpArgs false
namespace Go.Proofs.Ytepedjnmliclkaa
open Go.RowKit

set_option maxRecDepth 100000
/-- A row of texts at block g from base B on, of n cells at least. -/
def MR (w : World) (B : Nat) (A : Option Addr) (n : Nat) : Prop := n = 0 ∨ ∃ (g : Nat) (cur : Array Value), A = some ⟨g, 0, none⟩ ∧ B ≤ g ∧ w.heap[g]? = some (.cells cur 9 (0, 0)) ∧ n ≤ cur.size
theorem MR.of {w : World} {B n c : Nat} {A : Option Addr} {l : List (List UInt8)} (h : OwnS w B (.slice A n c) l) : MR w B A n := by
  have h' : w.ownsRow B 9 1 (.slice A n c) l.length (strs l) := h
  rcases h'.2 with ⟨e, _⟩ | ⟨g, cap, cur, e, hb, hh, r⟩
  · injection e with e1 e2 e3
    exact .inl e2
  · injection e with e1 e2 e3
    refine .inr ⟨g, cur, e1, hb, hh, ?_⟩
    have := r.1
    have := r.2.2.1
    omega
theorem MR.step {w w' : World} {B n : Nat} {A : Option Addr} (h : MR w B A n) (hb : Below w.heap.size w w') : MR w' B A n := by
  rcases h with h | ⟨g, cur, h1, h2, h3, h4⟩
  · exact .inl h
  · exact .inr ⟨g, cur, h1, h2, row_keep h3 hb, h4⟩
theorem MR.mono {w : World} {B B' n : Nat} {A : Option Addr} (h : MR w B A n) (hb : B' ≤ B) : MR w B' A n := by
  rcases h with h | ⟨g, cur, h1, h2, h3, h4⟩
  · exact .inl h
  · exact .inr ⟨g, cur, h1, by omega, h3, h4⟩
/-- A cell of a row of whatever type is written. -/
theorem MR.set {w : World} {B n : Nat} {A : Option Addr} (h : MR w B A n) {b : Nat} {cs : Array Value} {t : TypeId} (hr : w.heap[b]? = some (.cells cs t (0, 0))) (o : Nat) (v : Value) : MR (w.setCell ⟨b, o, none⟩ v) B A n := by
  rcases h with h | ⟨g, cur, h1, h2, h3, h4⟩
  · exact .inl h
  · refine .inr ⟨g, _, h1, h2, heap_set h3 b o v, ?_⟩
    split
    · simp; omega
    · exact h4
theorem LM.mark {w0 w : World} {B tb rb : Nat} {R : Int} {mb N : Nat} {xs zs : List Cn} {A : Option Addr} {n c : Nat} (h : LM w0 w B tb rb R mb N xs zs A n c) {g : Nat} {cur : Array Value} (hr : w.heap[g]? = some (.cells cur 9 (0, 0))) (hg : B ≤ g) (o : Nat) (v : Value) : LM w0 (w.setCell ⟨g, o, none⟩ v) B tb rb R mb N xs zs A n c := by
  have hne : g ≠ rb := by
    rintro rfl
    have h1 := h.box
    rw [hr] at h1
    injection h1 with h1; injection h1 with _ h1
    exact absurd h1 (by decide)
  refine ⟨h.lru.setOther hr (by decide) (by decide) o v, ?_, ?_, h.below.setCell hg v, h.le, h.lb⟩
  · have := heap_set h.box g o v
    rwa [if_neg hne] at this
  · have ho : w.ownsRow (rb + 1) 35 3 (.slice A n c) zs.length (itC zs) := h.own
    refine ho.kept (row := some g) ⟨rfl, rfl, rfl, by simp [World.setCell], fun i _ hne => Below.heap_setCell w ⟨g, o, none⟩ v i (fun he => hne (by rw [he]))⟩ ?_
    rcases ho.2 with ⟨e, _⟩ | ⟨g2, cap, cur2, e, hb, hh, r⟩
    · left; rw [e]; rfl
    · right
      rw [e]
      intro he
      have : g2 = g := by simpa [Value.ownBlock] using he
      subst this
      rw [hr] at hh
      injection hh with hh; injection hh with _ hh
      exact absurd hh (by decide)
end Go.Proofs.Ytepedjnmliclkaa
