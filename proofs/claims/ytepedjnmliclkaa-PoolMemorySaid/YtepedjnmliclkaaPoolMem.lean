/- Marks written into rows of numbers of the call's own: the pool and the document's pool stay. Conditions stand in each line. -/
import Derived.Test.YtepedjnmliclkaaPoolS
set_option linter.unusedVariables false
set_option linter.unusedSimpArgs false
namespace Go.Proofs.Ytepedjnmliclkaa
open Go.RowKit

set_option maxRecDepth 100000
/-- A row of numbers at block g from base B on, of n cells at least. -/
def MI (w : World) (B : Nat) (A : Option Addr) (n : Nat) : Prop := n = 0 ∨ ∃ (g : Nat) (cur : Array Value), A = some ⟨g, 0, none⟩ ∧ B ≤ g ∧ w.heap[g]? = some (.cells cur 3 (0, 0)) ∧ n ≤ cur.size
theorem MI.of {w : World} {B n c : Nat} {A : Option Addr} {l : List Int} (h : OwnI w B (.slice A n c) l) : MI w B A n := by
  have h' : w.ownsRow B 3 1 (.slice A n c) l.length (ints l) := h
  rcases h'.2 with ⟨e, _⟩ | ⟨g, cap, cur, e, hb, hh, r⟩
  · injection e with e1 e2 e3
    exact .inl e2
  · injection e with e1 e2 e3
    refine .inr ⟨g, cur, e1, hb, hh, ?_⟩
    have := r.1
    have := r.2.2.1
    omega
theorem MI.step {w w' : World} {B n : Nat} {A : Option Addr} (h : MI w B A n) (hb : Below w.heap.size w w') : MI w' B A n := by
  rcases h with h | ⟨g, cur, h1, h2, h3, h4⟩
  · exact .inl h
  · exact .inr ⟨g, cur, h1, h2, row_keep h3 hb, h4⟩
theorem MI.mono {w : World} {B B' n : Nat} {A : Option Addr} (h : MI w B A n) (hb : B' ≤ B) : MI w B' A n := by
  rcases h with h | ⟨g, cur, h1, h2, h3, h4⟩
  · exact .inl h
  · exact .inr ⟨g, cur, h1, by omega, h3, h4⟩
theorem MI.set {w : World} {B n : Nat} {A : Option Addr} (h : MI w B A n) (b o : Nat) (v : Value) : MI (w.setCell ⟨b, o, none⟩ v) B A n := by
  rcases h with h | ⟨g, cur, h1, h2, h3, h4⟩
  · exact .inl h
  · refine .inr ⟨g, _, h1, h2, heap_set h3 b o v, ?_⟩
    split
    · simp; omega
    · exact h4
theorem MI.set4 {w : World} {B n : Nat} {A : Option Addr} (h : MI w B A n) (b : Nat) (v0 v1 v2 v3 : Value) : MI ((((w.setCell ⟨b, 0, none⟩ v0).setCell ⟨b, 1, none⟩ v1).setCell ⟨b, 2, none⟩ v2).setCell ⟨b, 3, none⟩ v3) B A n := (((h.set b 0 v0).set b 1 v1).set b 2 v2).set b 3 v3
theorem PM.other {w0 w : World} {B pb rb : Nat} {m e i : Int} {xs zs : List Cn} {A : Option Addr} {n c : Nat} (h : PM w0 w B pb rb m e i xs zs A n c) {g : Nat} {cur : Array Value} {t : TypeId} (hr : w.heap[g]? = some (.cells cur t (0, 0))) (h1 : t ≠ 115) (h2 : t ≠ 117) (h3 : t ≠ 128) (hne : g ≠ rb) (hg : B ≤ g) (o : Nat) (v : Value) : PM w0 (w.setCell ⟨g, o, none⟩ v) B pb rb m e i xs zs A n c := by
  refine ⟨h.pool.setOther hr h1 h2 o v, ?_, ?_, h.below.setCell hg v, h.le, h.lb⟩
  · have := heap_set h.box g o v
    rwa [if_neg hne] at this
  · have ho : w.ownsRow (rb + 1) 128 3 (.slice A n c) zs.length (itC zs) := h.own
    refine ho.kept (row := some g) ⟨rfl, rfl, rfl, by simp [World.setCell], fun i _ hne => Below.heap_setCell w ⟨g, o, none⟩ v i (fun he => hne (by rw [he]))⟩ ?_
    rcases ho.2 with ⟨e, _⟩ | ⟨g2, cap, cur2, e, hb, hh, r⟩
    · left; rw [e]; rfl
    · right
      rw [e]
      intro he
      have : g2 = g := by simpa [Value.ownBlock] using he
      subst this
      rw [hr] at hh
      injection hh with hh; injection hh with _ hh
      exact h3 hh
theorem PM.mark {w0 w : World} {B pb rb : Nat} {m e i : Int} {xs zs : List Cn} {A : Option Addr} {n c : Nat} (h : PM w0 w B pb rb m e i xs zs A n c) {g : Nat} {cur : Array Value} (hr : w.heap[g]? = some (.cells cur 3 (0, 0))) (hg : B ≤ g) (o : Nat) (v : Value) : PM w0 (w.setCell ⟨g, o, none⟩ v) B pb rb m e i xs zs A n c := by
  have hne : g ≠ rb := by
    rintro rfl
    have h1 := h.box
    rw [hr] at h1
    injection h1 with h1; injection h1 with _ h1
    exact absurd h1 (by decide)
  exact h.other hr (by decide) (by decide) (by decide) hne hg o v
theorem PM.other4 {w0 w : World} {B pb rb : Nat} {m e i : Int} {xs zs : List Cn} {A : Option Addr} {n c : Nat} (h : PM w0 w B pb rb m e i xs zs A n c) {g : Nat} {u0 u1 u2 u3 : Value} (hr : w.heap[g]? = some (.cells #[u0, u1, u2, u3] 76 (0, 0))) (hne : g ≠ rb) (hg : B ≤ g) (v0 v1 v2 v3 : Value) : PM w0 ((((w.setCell ⟨g, 0, none⟩ v0).setCell ⟨g, 1, none⟩ v1).setCell ⟨g, 2, none⟩ v2).setCell ⟨g, 3, none⟩ v3) B pb rb m e i xs zs A n c := by
  have h1 := heap_set hr g 0 v0
  rw [if_pos rfl] at h1
  have h2 := heap_set h1 g 1 v1
  rw [if_pos rfl] at h2
  have h3 := heap_set h2 g 2 v2
  rw [if_pos rfl] at h3
  exact (((h.other hr (by decide) (by decide) (by decide) hne hg 0 _).other h1 (by decide) (by decide) (by decide) hne hg 1 _).other h2 (by decide) (by decide) (by decide) hne hg 2 _).other h3 (by decide) (by decide) (by decide) hne hg 3 _
/-- What is read in the region that asks the document: its box and one step of the script. -/
theorem pm8 {w0 w : World} {B pb rb : Nat} {m e i : Int} {xs zs : List Cn} {A : Option Addr} {n c : Nat} (h : PM w0 w B pb rb m e i xs zs A n c) {g o k : Nat} {x : Op4} (hs : ∃ n l, RdO w (some ⟨g, o, none⟩) n l ∧ k < n ∧ l[k]? = some x) :
    w.cell? ⟨rb, 0, none⟩ = some (.int .i64 m) ∧ w.cell? ⟨rb, 1, none⟩ = some (.int .i64 e) ∧ w.cell? ⟨rb, 2, none⟩ = some (.int .i64 i) ∧ w.cell? ⟨rb, 3, none⟩ = some (.slice A n c) ∧ w.cell? ⟨g, o + k * 4 + 1, none⟩ = some (.string (bs x.k)) ∧ w.cell? ⟨g, o + k * 4 + 2, none⟩ = some (.int .i64 x.a) ∧ w.cell? ⟨g, o + k * 4 + 3, none⟩ = some (.int .i64 x.b) := by
  obtain ⟨q, l, h1, h2, h3⟩ := hs
  obtain ⟨g', o', y, e1, hg, HY, d0, d1, d2, d3⟩ := h1.at_ h2
  cases e1
  obtain rfl : y = x := by have := HY.out; rw [h3] at this; exact (Option.some.inj this).symm
  exact ⟨h.cells.1.1, h.cells.1.2.1, h.cells.1.2.2.1, h.cells.1.2.2.2, d1, d2, d3⟩
def putsQ (m e : Int) (sc : List Op4) : List Cn := sc.foldl (fun xs o => (putL m e o.k o.a o.b xs).1) []
end Go.Proofs.Ytepedjnmliclkaa
