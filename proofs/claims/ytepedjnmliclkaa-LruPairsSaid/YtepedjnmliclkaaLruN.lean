/- The world of the laws over a script: the table, the document's table in its box; what each step leaves. Conditions stand in each line. -/
import Derived.Test.YtepedjnmliclkaaRefLP
import Derived.Test.YtepedjnmliclkaaLruM
set_option linter.unusedVariables false
set_option linter.unusedSimpArgs false
namespace Go.Proofs.Ytepedjnmliclkaa
open Go.RowKit

set_option maxRecDepth 100000
theorem LruX.setOther {w : World} {B tb mb N : Nat} {room : Int} {xs : List Cn} (h : LruX w B tb room mb N xs) {b : Nat} {cs : Array Value} {t : TypeId} (hr : w.heap[b]? = some (.cells cs t (0, 0))) (h1 : t ≠ 95) (h2 : t ≠ 97) (o : Nat) (v : Value) : LruX (w.setCell ⟨b, o, none⟩ v) B tb room mb N xs := by
  obtain ⟨G, e, hw⟩ := h
  obtain ⟨D, hm, hat⟩ := hw.map
  have hk : ∀ i : Nat, i ≠ b → (w.setCell ⟨b, o, none⟩ v).heap[i]? = w.heap[i]? := fun i hi => Below.heap_setCell w ⟨b, o, none⟩ v i hi
  have hne : ∀ (i : Nat) (cs' : Array Value) (t' : TypeId), w.heap[i]? = some (.cells cs' t' (0, 0)) → t' ≠ t → i ≠ b := by
    rintro i cs' t' h3 h4 rfl
    rw [hr] at h3
    injection h3 with h3; injection h3 with _ h3
    exact h4 h3.symm
  refine ⟨G, e, hw.ring.keep (hk _ (hne _ _ _ hw.ring.head h2.symm)) fun x hx => ?_, ⟨D, hm.kept (row := some b) ⟨rfl, rfl, rfl, by simp [World.setCell], fun i _ hne => hk i (fun he => hne (by rw [he]))⟩ ?_, hat⟩, hw.base⟩
  · obtain ⟨i, hi, rfl⟩ := List.getElem_of_mem hx
    exact hk _ (hne _ _ _ (hw.ring.blk i _ (List.getElem?_eq_getElem hi)) h1.symm)
  · obtain ⟨es, clock, hb, _⟩ := hm
    intro he
    injection he with he
    subst he
    rw [hr] at hb; cases hb
theorem RdS.setBox {w : World} {G : Option Addr} {n : Nat} {l : List (List UInt8)} (h : RdS w G n l) {b : Nat} {u v : Value} {t : TypeId} (hr : w.heap[b]? = some (.cells #[u, v] t (0, 0))) (hu : ∀ s, u ≠ .string s) (hv : ∀ s, v ≠ .string s) (o : Nat) (x : Value) : RdS (w.setCell ⟨b, o, none⟩ x) G n l := by
  refine ⟨h.1, h.2.1, fun hn => ?_⟩
  obtain ⟨g, o', rfl, hg, hc⟩ := h.2.2 hn
  have hne : g ≠ b := by
    rintro rfl
    obtain ⟨s, r, rfl⟩ : ∃ s r, l = s :: r := by
      cases l with
      | nil => have := h.1; simp at this; omega
      | cons s r => exact ⟨s, r, rfl⟩
    have h0 := hc 0 (.string (bs s)) rfl
    rw [cell_of_row _ _ _ _ _ _ hr] at h0
    rcases o' with _ | _ | o'
    · exact hu _ (Option.some.inj h0)
    · exact hv _ (Option.some.inj h0)
    · simp at h0
  exact ⟨g, o', rfl, by simpa [World.setCell] using hg, fun j y hy => (World.cell?_of_block (Below.heap_setCell w ⟨b, o, none⟩ x g hne)).trans (hc j y hy)⟩
structure LM (w0 w : World) (B tb rb : Nat) (R : Int) (mb N : Nat) (xs zs : List Cn) (A : Option Addr) (n c : Nat) : Prop where
  lru : LruX w B tb R mb N xs
  box : w.heap[rb]? = some (.cells #[.int .i64 R, .slice A n c] 28 (0, 0))
  own : OwnT 35 w (rb + 1) (.slice A n c) zs
  below : Below B w0 w
  le : B ≤ w0.heap.size
  lb : B ≤ rb
section
variable {w0 w w' : World} {B tb rb : Nat} {R : Int} {mb N : Nat} {xs ys zs zs' : List Cn} {A A' : Option Addr} {n c n' c' : Nat}
theorem LM.lt (h : LM w0 w B tb rb R mb N xs zs A n c) : rb < w.heap.size := (Array.getElem?_eq_some_iff.1 h.box).1
theorem LM.step (h : LM w0 w B tb rb R mb N xs zs A n c) (hb : Below w.heap.size w w') : LM w0 w' B tb rb R mb N xs zs A n c :=
  ⟨h.lru.step hb, row_keep h.box hb, h.own.step hb, h.below.trans (hb.mono (Nat.le_trans h.le h.below.size)), h.le, h.lb⟩
theorem LM.turn {M : Nat} (h : LM w0 w B tb rb R mb N xs zs A n c) (hl : LruX w' B tb R mb M ys) (ht : Turn B 95 97 w w') : LM w0 w' B tb rb R mb M ys zs A n c :=
  ⟨hl, row_turn ht h.box (by decide) (by decide), own_turn ht h.own (by decide) (by decide), h.below.trans ht.below, h.le, h.lb⟩
theorem LM.more {M : Nat} (h : LM w0 w B tb rb R mb N xs zs A n c) (hM : N ≤ M) : LM w0 w B tb rb R mb M xs zs A n c := ⟨h.lru.more hM, h.box, h.own, h.below, h.le, h.lb⟩
theorem LM.store (h : LM w0 w B tb rb R mb N xs zs A n c) (ho : OwnT 35 w (rb + 1) (.slice A' n' c') zs') : LM w0 ((w.setCell ⟨rb, 0, none⟩ (.int .i64 R)).setCell ⟨rb, 1, none⟩ (.slice A' n' c')) B tb rb R mb N xs zs' A' n' c' := by
  have hb := h.box
  have h1 := heap_set hb rb 0 (.int .i64 R)
  rw [if_pos rfl] at h1
  have h2 := heap_set h1 rb 1 (.slice A' n' c')
  rw [if_pos rfl] at h2
  refine ⟨(h.lru.setOther hb (by decide) (by decide) 0 _).setOther h1 (by decide) (by decide) 1 _, h2, (ho.setCell (by simp) _).setCell (by simp) _, (h.below.setCell h.lb _).setCell h.lb _, h.le, h.lb⟩
theorem LM.rdS (h : LM w0 w B tb rb R mb N xs zs A n c) {G : Option Addr} {m : Nat} {l : List (List UInt8)} (hg : RdS w G m l) (u : Value) (hu : ∀ s, u ≠ .string s) : RdS ((w.setCell ⟨rb, 0, none⟩ (.int .i64 R)).setCell ⟨rb, 1, none⟩ u) G m l := by
  have h1 := heap_set h.box rb 0 (.int .i64 R)
  rw [if_pos rfl] at h1
  exact (hg.setBox h.box (by simp) (by simp) 0 _).setBox (u := .int .i64 R) (v := .slice A n c) h1 (by simp) (by simp) 1 _
theorem LM.cells (h : LM w0 w B tb rb R mb N xs zs A n c) : w.cell? ⟨rb, 0, none⟩ = some (.int .i64 R) ∧ w.cell? ⟨rb, 1, none⟩ = some (.slice A n c) ∧ w.frozen? ⟨rb, 0, none⟩ = false ∧ w.frozen? ⟨rb, 1, none⟩ = false := row_facts2 h.box
theorem LM.drew (h : LM w0 w B tb rb R mb N xs zs A n c) : LM w0 w.drew B tb rb R mb N xs zs A n c := h.step (Below.refl _ _).drew
end
def stepN (R : Int) (xs : List Cn) (o : Op4) : List Cn := if o.w = 1 then (lputL R o.k o.a o.b xs).1 else if o.w = 2 then (match findK o.k xs with | some x => x :: woL o.k xs | none => xs) else if o.w = 4 then woL o.k xs else xs
def bndN (R : Int) (sc : List Op4) : List Cn := sc.foldl (stepN R) []
theorem bndN_snoc {R : Int} {sc : List Op4} {k : Nat} {x : Op4} (h : sc[k]? = some x) : bndN R (sc.take (k + 1)) = stepN R (bndN R (sc.take k)) x := by
  unfold bndN
  rw [take_snoc? h, List.foldl_append]; rfl
theorem stepN_ok {R : Int} {xs : List Cn} {o : Op4} (h : ItemsOK R xs) (hk : o.k.length ≤ maxLen) : ItemsOK R (stepN R xs o) ∧ (stepN R xs o).length ≤ xs.length + 1 := by
  unfold stepN
  split
  · exact ⟨h.put hk, (lputL_len ..).1⟩
  · split
    · cases hf : findK o.k xs with
      | none => exact ⟨h, by simp⟩
      | some x => exact ⟨(items_get h hf).1, by have := (items_get h hf).2; simp at this ⊢; omega⟩
    · split
      · exact ⟨h.wo _, by have : (woL o.k xs).length ≤ xs.length := List.length_filter_le _ _; omega⟩
      · exact ⟨h, by omega⟩
theorem bndN_ok {R : Int} (h0 : 0 ≤ R) (h1 : R ≤ 1073741824) (sc : List Op4) (hk : ∀ x ∈ sc, x.k.length ≤ maxLen) (k : Nat) : ItemsOK R (bndN R (sc.take k)) ∧ (bndN R (sc.take k)).length ≤ k := by
  induction k with
  | zero => exact ⟨items_nil h0 h1, by simp [bndN]⟩
  | succ k ih =>
    by_cases hl : k < sc.length
    · rw [bndN_snoc (List.getElem?_eq_getElem hl)]
      have := stepN_ok ih.1 (hk sc[k] (List.getElem_mem hl))
      exact ⟨this.1, by omega⟩
    · rw [List.take_of_length_le (by omega)] at ih ⊢
      exact ⟨ih.1, by omega⟩
end Go.Proofs.Ytepedjnmliclkaa
