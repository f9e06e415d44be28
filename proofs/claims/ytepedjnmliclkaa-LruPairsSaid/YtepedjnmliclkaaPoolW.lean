/- The pool in memory: the ring of its connections, and what a call that turns it leaves alone. No conditions of ours. -/
import Derived.Test.YtepedjnmliclkaaChecked
import Derived.Test.YtepedjnmliclkaaRing
set_option linter.unusedVariables false
set_option linter.unusedSimpArgs false
namespace Go.Proofs.Ytepedjnmliclkaa
open Go.RowKit

/-- What is left by a call that turns blocks of two types alone: below B all, elsewhere all rows of other types. -/
structure Turn (B : Nat) (T1 T2 : TypeId) (w w' : World) : Prop where
  below : Below B w w'
  rows : ∀ (b : Nat) (cs : Array Value) (t : TypeId) (z : Nat × Nat), w.heap[b]? = some (.cells cs t z) → t ≠ T1 → t ≠ T2 → w'.heap[b]? = w.heap[b]?
theorem Turn.refl (B : Nat) (T1 T2 : TypeId) (w : World) : Turn B T1 T2 w w := ⟨Below.refl _ _, fun _ _ _ _ _ _ _ => rfl⟩
theorem Turn.trans {B : Nat} {T1 T2 : TypeId} {a b c : World} (h : Turn B T1 T2 a b) (k : Turn B T1 T2 b c) : Turn B T1 T2 a c :=
  ⟨h.below.trans k.below, fun i cs t z hc h1 h2 => by
    have e1 := h.rows i cs t z hc h1 h2
    exact (k.rows i cs t z (e1.trans hc) h1 h2).trans e1⟩
theorem Turn.of_below {B : Nat} {T1 T2 : TypeId} {w w' : World} (h : Below w.heap.size w w') (hB : B ≤ w.heap.size) : Turn B T1 T2 w w' :=
  ⟨h.mono hB, fun i cs t z hc _ _ => h.block i (Array.getElem?_eq_some_iff.1 hc).1⟩
theorem Turn.drewN {B : Nat} {T1 T2 : TypeId} {w w' : World} (h : Turn B T1 T2 w w') (n : Nat) : Turn B T1 T2 w (w'.drewN n) := ⟨below_drewN h.below n, h.rows⟩
theorem Turn.setCell {B : Nat} {T1 T2 : TypeId} {w w' : World} (h : Turn B T1 T2 w w') {a : Addr} (hB : B ≤ a.block) {cs : Array Value} {t : TypeId} {z : Nat × Nat} (hb : w'.heap[a.block]? = some (.cells cs t z)) (ht : t = T1 ∨ t = T2) (v : Value) : Turn B T1 T2 w (w'.setCell a v) :=
  ⟨h.below.setCell hB v, fun i cs' t' z' hc h1 h2 => by
    have e := h.rows i cs' t' z' hc h1 h2
    have hne : i ≠ a.block := by
      rintro rfl
      rw [e, hc] at hb
      injection hb with hb; injection hb with _ hb
      subst hb
      rcases ht with ht | ht
      · exact h1 ht
      · exact h2 ht
    rw [Below.heap_setCell w' a v i hne]; exact e⟩
/-- The block b is a row of one of the two types. -/
def RowOf (w : World) (T1 T2 : TypeId) (b : Nat) : Prop := ∃ cs t, w.heap[b]? = some (.cells cs t (0, 0)) ∧ (t = T1 ∨ t = T2)
theorem RowOf.set {w : World} {T1 T2 : TypeId} {b : Nat} (h : RowOf w T1 T2 b) (a o : Nat) (v : Value) : RowOf (w.setCell ⟨a, o, none⟩ v) T1 T2 b := by
  obtain ⟨cs, t, h1, h2⟩ := h
  exact ⟨_, t, heap_set h1 a o v, h2⟩
theorem Turn.set {B : Nat} {T1 T2 : TypeId} {w w' : World} (h : Turn B T1 T2 w w') {a : Nat} (o : Nat) (hB : B ≤ a) (hr : RowOf w' T1 T2 a) (v : Value) : Turn B T1 T2 w (w'.setCell ⟨a, o, none⟩ v) := by
  obtain ⟨cs, t, h1, h2⟩ := hr
  exact h.setCell (a := ⟨a, o, none⟩) hB h1 h2 v
/-- The two pointers of each place. -/
theorem Ring.nx {w : World} {hb : Nat} {HT : TypeId} {pre : List Value} {np : Nat} {T : TypeId} {L : List Nd} (R : Ring w hb HT pre np T L) {i : Nat} (hi : i ≤ L.length) {b o : Nat} (e : adr (hdA hb pre np) L i = ⟨b, o, none⟩) :
    w.cell? ⟨b, o + (np + 1), none⟩ = some (.pointer (some (adr (hdA hb pre np) L (i + 1)))) ∧ w.frozen? ⟨b, o + (np + 1), none⟩ = false ∧ ((b = hb ∧ ∃ cs, w.heap[b]? = some (.cells cs HT (0, 0))) ∨ (∃ x ∈ L, b = x.g ∧ ∃ cs, w.heap[b]? = some (.cells cs T (0, 0)))) := by
  have h3 := R.pre3
  rcases adr_cases hb (pre.length - np) L i with ⟨e2, h⟩ | ⟨j, x, rfl, hx, e2⟩
  · unfold hdA at e; rw [e2] at e
    injection e with e3 e4 _
    subst e3 e4
    obtain rfl : i = 0 := by omega
    have hh := R.head
    refine ⟨?_, by simp only [World.frozen?, hh]; rfl, .inl ⟨rfl, _, hh⟩⟩
    rw [cell_of_row _ _ _ _ _ _ hh, show pre.length - np + (np + 1) = pre.length + 1 by omega]
    simp [hdC]
  · unfold hdA at e; rw [e2] at e
    injection e with e3 e4 _
    subst e3 e4
    have hh := R.blk j x hx
    refine ⟨?_, by simp only [World.frozen?, hh]; rfl, .inr ⟨x, mem_get hx, rfl, _, hh⟩⟩
    rw [cell_of_row _ _ _ _ _ _ hh]
    have hl := R.len x (mem_get hx)
    unfold ndC
    subst hl
    simp
theorem Ring.pv {w : World} {hb : Nat} {HT : TypeId} {pre : List Value} {np : Nat} {T : TypeId} {L : List Nd} (R : Ring w hb HT pre np T L) {i : Nat} (hi : i ≤ L.length) {b o : Nat} (e : adr (hdA hb pre np) L (i + 1) = ⟨b, o, none⟩) :
    w.cell? ⟨b, o + np, none⟩ = some (.pointer (some (adr (hdA hb pre np) L i))) ∧ w.frozen? ⟨b, o + np, none⟩ = false ∧ ((b = hb ∧ ∃ cs, w.heap[b]? = some (.cells cs HT (0, 0))) ∨ (∃ x ∈ L, b = x.g ∧ ∃ cs, w.heap[b]? = some (.cells cs T (0, 0)))) := by
  have h3 := R.pre3
  rcases adr_cases hb (pre.length - np) L (i + 1) with ⟨e2, h⟩ | ⟨j, x, hj, hx, e2⟩
  · unfold hdA at e; rw [e2] at e
    injection e with e3 e4 _
    subst e3 e4
    obtain rfl : i = L.length := by omega
    have hh := R.head
    refine ⟨?_, by simp only [World.frozen?, hh]; rfl, .inl ⟨rfl, _, hh⟩⟩
    rw [cell_of_row _ _ _ _ _ _ hh, show pre.length - np + np = pre.length by omega]
    simp [hdC]
  · unfold hdA at e; rw [e2] at e
    injection e with e3 e4 _
    subst e3 e4
    obtain rfl : i = j := by omega
    have hh := R.blk i x hx
    refine ⟨?_, by simp only [World.frozen?, hh]; rfl, .inr ⟨x, mem_get hx, rfl, _, hh⟩⟩
    rw [cell_of_row _ _ _ _ _ _ hh]
    have hl := R.len x (mem_get hx)
    unfold ndC
    subst hl
    simp
theorem adr_form (hb : Nat) (pre : List Value) (np : Nat) (L : List Nd) (i : Nat) : ∃ b o, adr (hdA hb pre np) L i = ⟨b, o, none⟩ := by
  rcases adr_cases hb (pre.length - np) L i with ⟨e, _⟩ | ⟨_, x, _, _, e⟩
  · exact ⟨_, _, e⟩
  · exact ⟨_, _, e⟩

/-- A connection: its origin, its id, when it was put in. -/
structure Cn where
  o : List UInt8
  id : Int
  wh : Int
def cnC (x : Cn) : List Value := [.string (bs x.o), .int .i64 x.id, .int .i64 x.wh]
def nds (G : List (Nat × Cn)) : List Nd := G.map fun p => ⟨p.1, cnC p.2⟩
def poolPre (most each idle size : Int) : List Value := [.int .i64 most, .int .i64 each, .int .i64 idle, .int .i64 size, .string ⟨#[]⟩, .int .i64 0, .int .i64 0]
/-- The pool at block pb holds these connections; its blocks lie from B on. -/
structure PoolW (w : World) (B pb : Nat) (most each idle : Int) (G : List (Nat × Cn)) : Prop where
  ring : Ring w pb 117 (poolPre most each idle G.length) 3 115 (nds G)
  base : B ≤ pb ∧ ∀ p ∈ G, B ≤ p.1
theorem nds_get {G : List (Nat × Cn)} {k : Nat} {x : Nat × Cn} (h : G[k]? = some x) : (nds G)[k]? = some ⟨x.1, cnC x.2⟩ := by simp [nds, h]
theorem nds_len (G : List (Nat × Cn)) : (nds G).length = G.length := by simp [nds]
theorem nds_erase (G : List (Nat × Cn)) (k : Nat) : (nds G).eraseIdx k = nds (G.eraseIdx k) := by
  unfold nds
  induction G generalizing k with
  | nil => simp
  | cons x r ih => cases k with
    | zero => simp
    | succ k => simp [ih]
theorem nds_mem {G : List (Nat × Cn)} {x : Nd} (h : x ∈ nds G) : ∃ p ∈ G, x = ⟨p.1, cnC p.2⟩ := by
  unfold nds at h
  obtain ⟨p, hp, rfl⟩ := List.mem_map.1 h
  exact ⟨p, hp, rfl⟩
theorem PoolW.step {w w' : World} {B pb : Nat} {most each idle : Int} {G : List (Nat × Cn)} (h : PoolW w B pb most each idle G) (hb : Below w.heap.size w w') : PoolW w' B pb most each idle G := ⟨h.ring.step hb, h.base⟩
theorem PoolW.drew {w : World} {B pb : Nat} {most each idle : Int} {G : List (Nat × Cn)} (h : PoolW w B pb most each idle G) : PoolW w.drew B pb most each idle G := ⟨h.ring.keep rfl fun _ _ => rfl, h.base⟩
theorem PoolW.drewN {w : World} {B pb : Nat} {most each idle : Int} {G : List (Nat × Cn)} (h : PoolW w B pb most each idle G) (n : Nat) : PoolW (w.drewN n) B pb most each idle G := ⟨h.ring.keep rfl fun _ _ => rfl, h.base⟩
theorem Turn.drew {B : Nat} {T1 T2 : TypeId} {w w' : World} (h : Turn B T1 T2 w w') : Turn B T1 T2 w w'.drew := ⟨h.below.drew, h.rows⟩
theorem PoolW.row {w : World} {B pb : Nat} {most each idle : Int} {G : List (Nat × Cn)} (h : PoolW w B pb most each idle G) {b : Nat}
    (hs : (b = pb ∧ ∃ cs, w.heap[b]? = some (.cells cs 117 (0, 0))) ∨ (∃ x ∈ nds G, b = x.g ∧ ∃ cs, w.heap[b]? = some (.cells cs 115 (0, 0)))) : B ≤ b ∧ RowOf w 115 117 b := by
  rcases hs with ⟨rfl, cs, hc⟩ | ⟨x, hx, rfl, cs, hc⟩
  · exact ⟨h.base.1, cs, _, hc, .inr rfl⟩
  · obtain ⟨p, hp, rfl⟩ := nds_mem hx
    exact ⟨h.base.2 p hp, cs, _, hc, .inl rfl⟩
/-- The pool's own cells. -/
theorem PoolW.cells {w : World} {B pb : Nat} {most each idle : Int} {G : List (Nat × Cn)} (h : PoolW w B pb most each idle G) :
    w.cell? ⟨pb, 0, none⟩ = some (.int .i64 most) ∧ w.cell? ⟨pb, 1, none⟩ = some (.int .i64 each) ∧ w.cell? ⟨pb, 2, none⟩ = some (.int .i64 idle) ∧ w.cell? ⟨pb, 3, none⟩ = some (.int .i64 G.length) ∧ w.frozen? ⟨pb, 3, none⟩ = false := by
  have hh := h.ring.head
  refine ⟨?_, ?_, ?_, ?_, by simp only [World.frozen?, hh]; rfl⟩ <;> rw [cell_of_row _ _ _ _ _ _ hh] <;> rfl
/-- A connection's cells. -/
theorem PoolW.node {w : World} {B pb : Nat} {most each idle : Int} {G : List (Nat × Cn)} (h : PoolW w B pb most each idle G) {k : Nat} {x : Nat × Cn} (hx : G[k]? = some x) :
    w.cell? ⟨x.1, 0, none⟩ = some (.string (bs x.2.o)) ∧ w.cell? ⟨x.1, 1, none⟩ = some (.int .i64 x.2.id) ∧ w.cell? ⟨x.1, 2, none⟩ = some (.int .i64 x.2.wh) ∧
      w.cell? ⟨x.1, 3, none⟩ = some (.pointer (some (adr ⟨pb, 4, none⟩ (nds G) k))) ∧ w.cell? ⟨x.1, 4, none⟩ = some (.pointer (some (adr ⟨pb, 4, none⟩ (nds G) (k + 2)))) := by
  have hh := h.ring.blk k _ (nds_get hx)
  refine ⟨?_, ?_, ?_, ?_, ?_⟩ <;> rw [cell_of_row _ _ _ _ _ _ hh] <;> rfl
end Go.Proofs.Ytepedjnmliclkaa
