/- Two tables of other things beside one another, and the document's table in its box. Conditions stand in each line. -/
import Derived.Test.YtepedjnmliclkaaLB
import Derived.Test.YtepedjnmliclkaaLruN
import Derived.Lib.ConvBytes
import Derived.Laws.BytesArg
set_option linter.unusedVariables false
set_option linter.unusedSimpArgs false
namespace Go.Proofs.Ytepedjnmliclkaa
open Go.RowKit

set_option maxRecDepth 100000
theorem LA.LruX.lower {w : World} {B B' tb mb N : Nat} {room : Int} {xs : List Cn} (h : LA.LruX w B tb room mb N xs) (hB : B' ≤ B) : LA.LruX w B' tb room mb N xs := by
  obtain ⟨G, e, hw⟩ := h
  exact ⟨G, e, ⟨hw.ring, hw.map, Nat.le_trans hB hw.base.1, Nat.le_trans hB hw.base.2.1, fun p hp => Nat.le_trans hB (hw.base.2.2 p hp)⟩⟩
theorem LA.LruX.more {w : World} {B tb mb N M : Nat} {room : Int} {xs : List Cn} (h : LA.LruX w B tb room mb N xs) (hM : N ≤ M) : LA.LruX w B tb room mb M xs := by
  obtain ⟨G, e, hw⟩ := h
  obtain ⟨D, hm, hat⟩ := hw.map
  exact ⟨G, e, ⟨hw.ring, ⟨D, hm.mono hM, hat⟩, hw.base⟩⟩
theorem LA.LruX.mapAt {w : World} {B tb mb N : Nat} {room : Int} {xs : List Cn} (h : LA.LruX w B tb room mb N xs) : B ≤ mb ∧ mb < w.heap.size := by
  obtain ⟨G, e, hw⟩ := h
  obtain ⟨D, ⟨es, clock, hb, _⟩, hat⟩ := hw.map
  exact ⟨hw.base.2.1, (Array.getElem?_eq_some_iff.1 hb).1⟩
/-- The table stays behind a turn of a table of other types. -/
theorem LA.LruX.other {w w' : World} {B tb mb N : Nat} {room : Int} {xs : List Cn} (h : LA.LruX w B tb room mb N xs) {m2 B2 : Nat} {T1 T2 : TypeId} (ht : TurnM m2 B2 T1 T2 w w') (hne : mb ≠ m2) (a1 : 102 ≠ T1) (a2 : 102 ≠ T2) (b1 : 104 ≠ T1) (b2 : 104 ≠ T2) : LA.LruX w' B tb room mb N xs := by
  obtain ⟨G, e, hw⟩ := h
  obtain ⟨D, ⟨es, clock, hb, r⟩, hat⟩ := hw.map
  refine ⟨G, e, ⟨hw.ring.keep (ht.turn.rows _ _ _ _ hw.ring.head b1 b2) fun x hx => ?_, ⟨D, ⟨es, clock, (ht.maps mb es clock hne hb).trans hb, r⟩, hat⟩, hw.base⟩⟩
  obtain ⟨i, hi, rfl⟩ := List.getElem_of_mem hx
  exact ht.turn.rows _ _ _ _ (hw.ring.blk i _ (List.getElem?_eq_getElem hi)) a1 a2
theorem LB.LruX.lower {w : World} {B B' tb mb N : Nat} {room : Int} {xs : List Cn} (h : LB.LruX w B tb room mb N xs) (hB : B' ≤ B) : LB.LruX w B' tb room mb N xs := by
  obtain ⟨V, G, e, hw, hv⟩ := h
  exact ⟨V, G, e, ⟨hw.ring, hw.map, Nat.le_trans hB hw.base.1, Nat.le_trans hB hw.base.2.1, fun p hp => Nat.le_trans hB (hw.base.2.2 p hp)⟩, hv⟩
theorem LB.LruX.more {w : World} {B tb mb N M : Nat} {room : Int} {xs : List Cn} (h : LB.LruX w B tb room mb N xs) (hM : N ≤ M) : LB.LruX w B tb room mb M xs := by
  obtain ⟨V, G, e, hw, hv⟩ := h
  obtain ⟨D, hm, hat⟩ := hw.map
  exact ⟨V, G, e, ⟨hw.ring, ⟨D, hm.mono hM, hat⟩, hw.base⟩, hv⟩
theorem LB.LruX.mapAt {w : World} {B tb mb N : Nat} {room : Int} {xs : List Cn} (h : LB.LruX w B tb room mb N xs) : B ≤ mb ∧ mb < w.heap.size := by
  obtain ⟨V, G, e, hw, hv⟩ := h
  obtain ⟨D, ⟨es, clock, hb, _⟩, hat⟩ := hw.map
  exact ⟨hw.base.2.1, (Array.getElem?_eq_some_iff.1 hb).1⟩
/-- The table stays behind a turn of a table of other types. -/
theorem LB.LruX.other {w w' : World} {B tb mb N : Nat} {room : Int} {xs : List Cn} (h : LB.LruX w B tb room mb N xs) {m2 B2 : Nat} {T1 T2 : TypeId} (ht : TurnM m2 B2 T1 T2 w w') (hne : mb ≠ m2) (a1 : 108 ≠ T1) (a2 : 108 ≠ T2) (b1 : 110 ≠ T1) (b2 : 110 ≠ T2) (h3 : 5 ≠ T1) (h4 : 5 ≠ T2) : LB.LruX w' B tb room mb N xs := by
  obtain ⟨V, G, e, hw, hv⟩ := h
  obtain ⟨D, ⟨es, clock, hb, r⟩, hat⟩ := hw.map
  refine ⟨V, G, e, ⟨hw.ring.keep (ht.turn.rows _ _ _ _ hw.ring.head b1 b2) fun x hx => ?_, ⟨D, ⟨es, clock, (ht.maps mb es clock hne hb).trans hb, r⟩, hat⟩, hw.base⟩, (hv.turn ht.turn h3 h4)⟩
  obtain ⟨i, hi, rfl⟩ := List.getElem_of_mem hx
  exact ht.turn.rows _ _ _ _ (hw.ring.blk i _ (List.getElem?_eq_getElem hi)) a1 a2
/-- Both tables hold the same items; the document's table lies in block rb. -/
structure LP2 (w0 w : World) (B tb ub rb : Nat) (R : Int) (mt mu N : Nat) (xs : List Cn) (A : Option Addr) (n c : Nat) : Prop where
  ta : LA.LruX w B tb R mt N xs
  tu : LB.LruX w B ub R mu N xs
  ne : mt ≠ mu
  box : w.heap[rb]? = some (.cells #[.int .i64 R, .slice A n c] 28 (0, 0))
  own : OwnT 35 w (rb + 1) (.slice A n c) xs
  below : Below B w0 w
  le : B ≤ w0.heap.size
  lb : B ≤ rb
/-- The two tables hold ys already, the document's still xs. -/
structure LP3 (w0 w : World) (B tb ub rb : Nat) (R : Int) (mt mu N1 N2 : Nat) (xs ys zs : List Cn) (A : Option Addr) (n c : Nat) : Prop where
  ta : LA.LruX w B tb R mt N1 xs
  tu : LB.LruX w B ub R mu N2 ys
  ne : mt ≠ mu
  box : w.heap[rb]? = some (.cells #[.int .i64 R, .slice A n c] 28 (0, 0))
  own : OwnT 35 w (rb + 1) (.slice A n c) zs
  below : Below B w0 w
  le : B ≤ w0.heap.size
  lb : B ≤ rb
section
variable {w0 w w' : World} {B tb ub rb : Nat} {R : Int} {mt mu N N1 N2 M : Nat} {xs ys zs us : List Cn} {A A' : Option Addr} {n c n' c' : Nat}
theorem LP2.to3 (h : LP2 w0 w B tb ub rb R mt mu N xs A n c) : LP3 w0 w B tb ub rb R mt mu N N xs xs xs A n c := ⟨h.ta, h.tu, h.ne, h.box, h.own, h.below, h.le, h.lb⟩
theorem LP3.to2 (h : LP3 w0 w B tb ub rb R mt mu N1 N2 xs xs xs A n c) (h1 : N1 ≤ M) (h2 : N2 ≤ M) : LP2 w0 w B tb ub rb R mt mu M xs A n c := ⟨h.ta.more h1, h.tu.more h2, h.ne, h.box, h.own, h.below, h.le, h.lb⟩
theorem LP3.lt (h : LP3 w0 w B tb ub rb R mt mu N1 N2 xs ys zs A n c) : rb < w.heap.size := (Array.getElem?_eq_some_iff.1 h.box).1
theorem LP3.step (h : LP3 w0 w B tb ub rb R mt mu N1 N2 xs ys zs A n c) (hb : Below w.heap.size w w') : LP3 w0 w' B tb ub rb R mt mu N1 N2 xs ys zs A n c :=
  ⟨h.ta.step hb, h.tu.step hb, h.ne, row_keep h.box hb, h.own.step hb, h.below.trans (hb.mono (Nat.le_trans h.le h.below.size)), h.le, h.lb⟩
theorem LP2.step (h : LP2 w0 w B tb ub rb R mt mu N xs A n c) (hb : Below w.heap.size w w') : LP2 w0 w' B tb ub rb R mt mu N xs A n c := (h.to3.step hb).to2 (Nat.le_refl _) (Nat.le_refl _)
theorem LP3.turnA (h : LP3 w0 w B tb ub rb R mt mu N1 N2 xs ys zs A n c) (hl : LA.LruX w' B tb R mt M us) (ht : TurnM mt B 102 104 w w') : LP3 w0 w' B tb ub rb R mt mu M N2 us ys zs A n c :=
  ⟨hl, h.tu.other ht h.ne.symm (by decide) (by decide) (by decide) (by decide) (by decide) (by decide), h.ne, row_turn ht.turn h.box (by decide) (by decide), own_turn ht.turn h.own (by decide) (by decide), h.below.trans ht.turn.below, h.le, h.lb⟩
theorem LP3.turnB (h : LP3 w0 w B tb ub rb R mt mu N1 N2 xs ys zs A n c) (hl : LB.LruX w' B ub R mu M us) (ht : TurnM mu B 108 110 w w') : LP3 w0 w' B tb ub rb R mt mu N1 M xs us zs A n c :=
  ⟨h.ta.other ht h.ne (by decide) (by decide) (by decide) (by decide), hl, h.ne, row_turn ht.turn h.box (by decide) (by decide), own_turn ht.turn h.own (by decide) (by decide), h.below.trans ht.turn.below, h.le, h.lb⟩
theorem LP3.store (h : LP3 w0 w B tb ub rb R mt mu N1 N2 xs ys zs A n c) (ho : OwnT 35 w (rb + 1) (.slice A' n' c') us) : LP3 w0 ((w.setCell ⟨rb, 0, none⟩ (.int .i64 R)).setCell ⟨rb, 1, none⟩ (.slice A' n' c')) B tb ub rb R mt mu N1 N2 xs ys us A' n' c' := by
  have hb := h.box
  have h1 := heap_set hb rb 0 (.int .i64 R)
  rw [if_pos rfl] at h1
  have h2 := heap_set h1 rb 1 (.slice A' n' c')
  rw [if_pos rfl] at h2
  exact ⟨(h.ta.setOther hb (by decide) (by decide) 0 _).setOther h1 (by decide) (by decide) 1 _, (h.tu.setOther hb (by decide) (by decide) (by decide) 0 _).setOther h1 (by decide) (by decide) (by decide) 1 _, h.ne, h2, (ho.setCell (by simp) _).setCell (by simp) _, (h.below.setCell h.lb _).setCell h.lb _, h.le, h.lb⟩
theorem LP3.cells (h : LP3 w0 w B tb ub rb R mt mu N1 N2 xs ys zs A n c) : w.cell? ⟨rb, 0, none⟩ = some (.int .i64 R) ∧ w.cell? ⟨rb, 1, none⟩ = some (.slice A n c) ∧ w.frozen? ⟨rb, 0, none⟩ = false ∧ w.frozen? ⟨rb, 1, none⟩ = false := row_facts2 h.box
end
/-- One step: Put, or Drop. -/
def stepP (R : Int) (xs : List Cn) (o : Op4) : List Cn := if o.w = 1 then (lputL R o.k o.a o.b xs).1 else woL o.k xs
def bndP (R : Int) (sc : List Op4) : List Cn := sc.foldl (stepP R) []
theorem bndP_snoc {R : Int} {sc : List Op4} {k : Nat} {x : Op4} (h : sc[k]? = some x) : bndP R (sc.take (k + 1)) = stepP R (bndP R (sc.take k)) x := by
  unfold bndP
  rw [take_snoc? h, List.foldl_append]; rfl
theorem stepP_ok {R : Int} {xs : List Cn} {o : Op4} (h : ItemsOK R xs) (hk : o.k.length ≤ maxLen) : ItemsOK R (stepP R xs o) ∧ (stepP R xs o).length ≤ xs.length + 1 := by
  unfold stepP
  split
  · exact ⟨h.put hk, (lputL_len ..).1⟩
  · exact ⟨h.wo _, by have : (woL o.k xs).length ≤ xs.length := List.length_filter_le _ _; omega⟩
theorem bndP_ok {R : Int} (h0 : 0 ≤ R) (h1 : R ≤ 1073741824) (sc : List Op4) (hk : ∀ x ∈ sc, x.k.length ≤ maxLen) (k : Nat) : ItemsOK R (bndP R (sc.take k)) ∧ (bndP R (sc.take k)).length ≤ k := by
  induction k with
  | zero => exact ⟨items_nil h0 h1, by simp [bndP]⟩
  | succ k ih =>
    by_cases hl : k < sc.length
    · rw [bndP_snoc (List.getElem?_eq_getElem hl)]
      have := stepP_ok ih.1 (hk sc[k] (List.getElem_mem hl))
      exact ⟨this.1, by omega⟩
    · rw [List.take_of_length_le (by omega)] at ih ⊢
      exact ⟨ih.1, by omega⟩
/-- A text turned into bytes. -/
theorem valAt_conv (w : World) (s : List UInt8) : LB.ValAt (Lib.bytesWorld w 5 (bs s)) (.slice (some ⟨w.heap.size, 0, none⟩) s.length (grownCap w s.length 0 5)) s := by
  refine ⟨_, _, _, rfl, rfl, fun _ => ⟨w.heap.size, 0, rfl, ?_, fun j b hj => ?_⟩⟩
  · exact ⟨_, _, Lib.bytesWorld_at_new w 5 (bs s)⟩
  · obtain ⟨hlt, rfl⟩ := List.getElem?_eq_some_iff.1 hj
    have h1 := Lib.bytesWorld_cell w 5 (bs s) j (by simpa using hlt)
    rw [bs_data] at h1
    rw [Nat.zero_add, h1]; simp [List.getD, hlt]
theorem bytesW_below (w : World) (e : TypeId) (s : ByteArray) : Below w.heap.size w (Lib.bytesWorld w e s) := by
  refine ⟨?_, ?_, ?_, by rw [Lib.bytesWorld_size]; omega, fun k hk => Lib.bytesWorld_at_old w e s k hk⟩ <;> simp [Lib.bytesWorld, World.freeze, World.alloc, World.drew, -World.alloc_eq, -World.drew_eq]
theorem convL_sb (l : List UInt8) (w : World) : (convert 9 56 (.string (bs l))).run Try.prog w = .ok (.slice (some ⟨w.heap.size, 0, none⟩) l.length (grownCap w l.length 0 5)) (Lib.bytesWorld w 5 (bs l)) := by
  have h := Lib.run_convert_string_bytes (P := Try.prog) w 9 56 5 (bs l) Try.underlying9 Try.underlying56 Try.underlying5
  rw [bs_size] at h
  exact h
theorem convL_bs {w : World} {A : Option Addr} {n c : Nat} {l : List UInt8} (h : LB.ValAt w (.slice A n c) l) : (convert 56 9 (.slice A n c)).run Try.prog w = .ok (.string (bs l)) w ∧ l.length = n := by
  obtain ⟨A', n', c', e, h1, h2⟩ := h
  injection e with e1 e2 e3
  subst e1 e2 e3
  refine ⟨?_, h1⟩
  rcases Nat.eq_zero_or_pos n with h0 | h0
  · subst h0
    have hl : l = [] := List.eq_nil_of_length_eq_zero h1
    subst hl
    cases A with
    | none => exact run_convert_bytes_nil (P := Try.prog) w _ _ Try.underlying56 Try.underlying5 0 c _ Try.underlying9
    | some a =>
      rw [run_convert_bytes_string w _ _ _ (some a) 0 c Try.underlying56 Try.underlying5 Try.underlying9]
      have hl0 : (loadCells a 0).run Try.prog w = .ok #[] w := by simpa using run_loadCells_list (P := Try.prog) w a [] (fun j v h => by simp at h)
      rw [run_bytesToString w a 0 c [] (by simpa using hl0)]
      rfl
  · obtain ⟨g, o, rfl, _, hc⟩ := h2 h0
    have := run_convert_bytes_arg (P := Try.prog) w 56 5 Try.underlying56 Try.underlying5 g o n c (l.map fun b => (b.toNat : Int)) (by simpa using h1) (fun i hi => by
      have hi' : i < l.length := by rw [h1]; exact hi
      rw [hc i l[i] (by simp [hi'])]
      simp [List.getD, hi']) 9 Try.underlying9
    rw [this]
    congr 2
    apply ByteArray.ext
    simp [strOfNums, bs, Function.comp_def]
end Go.Proofs.Ytepedjnmliclkaa
