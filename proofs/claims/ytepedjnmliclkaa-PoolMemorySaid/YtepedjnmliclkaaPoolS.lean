/- The world of the pool's laws over a script: the pool, the document's pool in its box; what each step leaves. Conditions stand in each line. -/
import Derived.Test.YtepedjnmliclkaaRefP4
import Derived.Test.YtepedjnmliclkaaOpenO
set_option linter.unusedVariables false
set_option linter.unusedSimpArgs false
namespace Go.Proofs.Ytepedjnmliclkaa
open Go.RowKit

set_option maxRecDepth 100000
theorem PoolX.setOther {w : World} {B pb : Nat} {most each idle : Int} {xs : List Cn} (h : PoolX w B pb most each idle xs) {b : Nat} {cs : Array Value} {t : TypeId} (hr : w.heap[b]? = some (.cells cs t (0, 0))) (h1 : t ≠ 115) (h2 : t ≠ 117) (o : Nat) (v : Value) : PoolX (w.setCell ⟨b, o, none⟩ v) B pb most each idle xs := by
  obtain ⟨G, e, hw⟩ := h
  have hk : ∀ i : Nat, i ≠ b → (w.setCell ⟨b, o, none⟩ v).heap[i]? = w.heap[i]? := fun i hi => Below.heap_setCell w ⟨b, o, none⟩ v i hi
  have hne : ∀ (i : Nat) (cs' : Array Value) (t' : TypeId), w.heap[i]? = some (.cells cs' t' (0, 0)) → t' ≠ t → i ≠ b := by
    rintro i cs' t' h3 h4 rfl
    rw [hr] at h3
    injection h3 with h3; injection h3 with _ h3
    exact h4 h3.symm
  refine ⟨G, e, hw.ring.keep (hk _ (hne _ _ _ hw.ring.head h2.symm)) fun x hx => ?_, hw.base⟩
  obtain ⟨i, hi, rfl⟩ := List.getElem_of_mem hx
  exact hk _ (hne _ _ _ (hw.ring.blk i _ (List.getElem?_eq_getElem hi)) h1.symm)
structure PM (w0 w : World) (B pb rb : Nat) (m e i : Int) (xs zs : List Cn) (A : Option Addr) (n c : Nat) : Prop where
  pool : PoolX w B pb m e i xs
  box : w.heap[rb]? = some (.cells (pCells m e i A n c) 76 (0, 0))
  own : OwnT 128 w (rb + 1) (.slice A n c) zs
  below : Below B w0 w
  le : B ≤ w0.heap.size
  lb : B ≤ rb
section
variable {w0 w w' : World} {B pb rb : Nat} {m e i : Int} {xs ys zs zs' : List Cn} {A A' : Option Addr} {n c n' c' : Nat}
theorem PM.lt (h : PM w0 w B pb rb m e i xs zs A n c) : rb < w.heap.size := (Array.getElem?_eq_some_iff.1 h.box).1
theorem PM.step (h : PM w0 w B pb rb m e i xs zs A n c) (hb : Below w.heap.size w w') : PM w0 w' B pb rb m e i xs zs A n c :=
  ⟨h.pool.step hb, row_keep h.box hb, h.own.step hb, h.below.trans (hb.mono (Nat.le_trans h.le h.below.size)), h.le, h.lb⟩
theorem PM.turn (h : PM w0 w B pb rb m e i xs zs A n c) (hl : PoolX w' B pb m e i ys) (ht : Turn B 115 117 w w') : PM w0 w' B pb rb m e i ys zs A n c :=
  ⟨hl, row_turn ht h.box (by decide) (by decide), own_turn ht h.own (by decide) (by decide), h.below.trans ht.below, h.le, h.lb⟩
theorem PM.store (h : PM w0 w B pb rb m e i xs zs A n c) (ho : OwnT 128 w (rb + 1) (.slice A' n' c') zs') : PM w0 ((((w.setCell ⟨rb, 0, none⟩ (.int .i64 m)).setCell ⟨rb, 1, none⟩ (.int .i64 e)).setCell ⟨rb, 2, none⟩ (.int .i64 i)).setCell ⟨rb, 3, none⟩ (.slice A' n' c')) B pb rb m e i xs zs' A' n' c' := by
  have h1 := heap_set h.box rb 0 (.int .i64 m)
  rw [if_pos rfl] at h1
  have h2 := heap_set h1 rb 1 (.int .i64 e)
  rw [if_pos rfl] at h2
  have h3 := heap_set h2 rb 2 (.int .i64 i)
  rw [if_pos rfl] at h3
  exact ⟨(((h.pool.setOther h.box (by decide) (by decide) 0 _).setOther h1 (by decide) (by decide) 1 _).setOther h2 (by decide) (by decide) 2 _).setOther h3 (by decide) (by decide) 3 _, set4_at h.box _ _ _ _, (((ho.setCell (by simp) _).setCell (by simp) _).setCell (by simp) _).setCell (by simp) _, (((h.below.setCell h.lb _).setCell h.lb _).setCell h.lb _).setCell h.lb _, h.le, h.lb⟩
theorem PM.cells (h : PM w0 w B pb rb m e i xs zs A n c) : (w.cell? ⟨rb, 0, none⟩ = some (.int .i64 m) ∧ w.cell? ⟨rb, 1, none⟩ = some (.int .i64 e) ∧ w.cell? ⟨rb, 2, none⟩ = some (.int .i64 i) ∧ w.cell? ⟨rb, 3, none⟩ = some (.slice A n c)) ∧ w.frozen? ⟨rb, 0, none⟩ = false ∧ w.frozen? ⟨rb, 1, none⟩ = false ∧ w.frozen? ⟨rb, 2, none⟩ = false ∧ w.frozen? ⟨rb, 3, none⟩ = false := row_facts4p h.box
theorem PM.drew (h : PM w0 w B pb rb m e i xs zs A n c) : PM w0 w.drew B pb rb m e i xs zs A n c := h.step (Below.refl _ _).drew
end
def stepP (m e i : Int) (xs : List Cn) (o : Op4) : List Cn := if o.w = 1 then (putL m e o.k o.a o.b xs).1 else if o.w = 2 then takeR (lastL (takeB i o.b o.k) xs) xs else if o.w = 3 then xs.filter fun x => !oldX i o.b x else if o.w = 4 then dropL o.a xs else xs
def bndP (m e i : Int) (sc : List Op4) : List Cn := sc.foldl (stepP m e i) []
theorem bndP_snoc {m e i : Int} {sc : List Op4} {k : Nat} {x : Op4} (h : sc[k]? = some x) : bndP m e i (sc.take (k + 1)) = stepP m e i (bndP m e i (sc.take k)) x := by
  unfold bndP
  rw [take_snoc? h, List.foldl_append]; rfl
theorem stepP_ok {m e i : Int} {xs : List Cn} (o : Op4) (h : IdsOK xs) : IdsOK (stepP m e i xs o) ∧ (stepP m e i xs o).length ≤ xs.length + 1 := by
  unfold stepP
  split
  · exact ⟨h.putL .., (putL_len ..).1⟩
  · split
    · unfold takeR
      split
      · exact ⟨h.drop _, Nat.le_succ_of_le (dropL_len _ _)⟩
      · exact ⟨h, by omega⟩
    · split
      · refine ⟨?_, Nat.le_succ_of_le (List.length_filter_le _ _)⟩
        unfold IdsOK at *
        exact (List.filter_sublist.map _).nodup h
      · split
        · exact ⟨h.drop _, Nat.le_succ_of_le (dropL_len _ _)⟩
        · exact ⟨h, by omega⟩
theorem bndP_ok (m e i : Int) (sc : List Op4) (k : Nat) : IdsOK (bndP m e i (sc.take k)) ∧ (bndP m e i (sc.take k)).length ≤ k := by
  induction k with
  | zero => exact ⟨ids_nil, by simp [bndP]⟩
  | succ k ih =>
    by_cases hl : k < sc.length
    · rw [bndP_snoc (List.getElem?_eq_getElem hl)]
      have := stepP_ok (m := m) (e := e) (i := i) sc[k] ih.1
      exact ⟨this.1, by omega⟩
    · rw [List.take_of_length_le (by omega)] at ih ⊢
      exact ⟨ih.1, by omega⟩
end Go.Proofs.Ytepedjnmliclkaa
