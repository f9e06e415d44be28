/- The bounded table in memory: a ring of nodes and a map that leads to them; what a call that turns the ring leaves alone; unlink, front. No conditions of ours. -/
import Derived.Test.YtepedjnmliclkaaTyL
import Derived.Maps.Own
import Derived.Maps.OwnSet
import Derived.Maps.Views
import Derived.BigRegion
import Derived.LaidEqlPtr
import Derived.Lib.Builder
import Derived.Deep.LoopGhost
import Derived.Deep.QuietTactic
import Derived.BigQuiet
set_option linter.unusedVariables false
set_option linter.unusedSimpArgs false
namespace Go.Proofs.Ytepedjnmliclkaa
open Go.RowKit

/-- How a pointer to a node reads: its block. -/
def ptrR : Value → Option (DataW Unit × List MemPlace)
  | .pointer none => some (.nil, [])
  | .pointer (some ⟨g, 0, none⟩) => some (.lit (.int .i64 (g : Int)), [])
  | _ => none
theorem ptrR_nil : ptrR (.pointer none) = some (.nil, []) := rfl
theorem ptrR_some (g : Nat) : ptrR (.pointer (some ⟨g, 0, none⟩)) = some (.lit (.int .i64 (g : Int)), []) := rfl
theorem ptrR_inv_nil {v : Value} {z : List MemPlace} (h : ptrR v = some (.nil, z)) : v = .pointer none := by
  unfold ptrR at h
  split at h
  · rfl
  · simp at h
  · simp at h
theorem ptrR_inv_some {v : Value} {g : Nat} {z : List MemPlace} (h : ptrR v = some (.lit (.int .i64 (g : Int)), z)) : v = .pointer (some ⟨g, 0, none⟩) := by
  unfold ptrR at h
  split at h
  · simp at h
  · rename_i g'
    simp at h
    rw [show g' = g by omega]
  · simp at h
def lookL (G : List (Nat × Cn)) (s : List UInt8) : Option Nat := (G.find? fun p => p.2.o == s).map (·.1)
def elD : Option Nat → DataW Unit
  | none => .nil
  | some g => .lit (.int .i64 (g : Int))
def lruPre (room used : Int) (mb : Nat) : List Value := [.int .i64 room, .int .i64 used, .map (some mb), .string ⟨#[]⟩, .int .i64 0, .int .i64 0]
/-- The table at block tb: its room, what is used, its map's block, its nodes in their order; all blocks from B on. -/
structure LruW (w : World) (B tb : Nat) (room used : Int) (mb N : Nat) (G : List (Nat × Cn)) : Prop where
  ring : Ring w tb 97 (lruPre room used mb) 3 95 (nds G)
  map : ∃ D, w.ownsMap Try.prog 9 ptrR mb N D ∧ ∀ s : List UInt8, s.length ≤ maxLen → D.atKey (.string s) .nil = elD (lookL G s)
  base : B ≤ tb ∧ B ≤ mb ∧ ∀ p ∈ G, B ≤ p.1
theorem LruW.step {w w' : World} {B tb mb N : Nat} {room used : Int} {G : List (Nat × Cn)} (h : LruW w B tb room used mb N G) (hb : Below w.heap.size w w') : LruW w' B tb room used mb N G := by
  obtain ⟨D, h1, h2⟩ := h.map
  exact ⟨h.ring.step hb, ⟨D, h1.kept (row := none) ⟨hb.os, hb.tape, hb.output, hb.size, fun k hk _ => hb.block k hk⟩ (by simp), h2⟩, h.base⟩
theorem LruW.drew {w : World} {B tb mb N : Nat} {room used : Int} {G : List (Nat × Cn)} (h : LruW w B tb room used mb N G) : LruW w.drew B tb room used mb N G := ⟨h.ring.keep rfl fun _ _ => rfl, h.map, h.base⟩
theorem LruW.drewN {w : World} {B tb mb N : Nat} {room used : Int} {G : List (Nat × Cn)} (h : LruW w B tb room used mb N G) (n : Nat) : LruW (w.drewN n) B tb room used mb N G := ⟨h.ring.keep rfl fun _ _ => rfl, h.map, h.base⟩
theorem LruW.cells {w : World} {B tb mb N : Nat} {room used : Int} {G : List (Nat × Cn)} (h : LruW w B tb room used mb N G) :
    w.cell? ⟨tb, 0, none⟩ = some (.int .i64 room) ∧ w.cell? ⟨tb, 1, none⟩ = some (.int .i64 used) ∧ w.cell? ⟨tb, 2, none⟩ = some (.map (some mb)) ∧ w.frozen? ⟨tb, 1, none⟩ = false := by
  have hh := h.ring.head
  refine ⟨?_, ?_, ?_, by simp only [World.frozen?, hh]; rfl⟩ <;> rw [cell_of_row _ _ _ _ _ _ hh] <;> rfl
theorem ring_node {w : World} {tb : Nat} {HT : TypeId} {pre : List Value} {T : TypeId} {G : List (Nat × Cn)} (h : Ring w tb HT pre 3 T (nds G)) {k : Nat} {x : Nat × Cn} (hx : G[k]? = some x) :
    w.cell? ⟨x.1, 0, none⟩ = some (.string (bs x.2.o)) ∧ w.cell? ⟨x.1, 1, none⟩ = some (.int .i64 x.2.id) ∧ w.cell? ⟨x.1, 2, none⟩ = some (.int .i64 x.2.wh) ∧
      w.cell? ⟨x.1, 3, none⟩ = some (.pointer (some (adr (hdA tb pre 3) (nds G) k))) ∧ w.cell? ⟨x.1, 4, none⟩ = some (.pointer (some (adr (hdA tb pre 3) (nds G) (k + 2)))) := by
  have hh := h.blk k _ (nds_get hx)
  refine ⟨?_, ?_, ?_, ?_, ?_⟩ <;> rw [cell_of_row _ _ _ _ _ _ hh] <;> rfl
/-- What a call leaves that turns rows of two types alone: maps too. -/
structure RTurn (B : Nat) (T1 T2 : TypeId) (w w' : World) : Prop where
  turn : Turn B T1 T2 w w'
  maps : ∀ (b : Nat) (es : Array MapEntry) (c : Nat), w.heap[b]? = some (.map es c) → w'.heap[b]? = w.heap[b]?
theorem RTurn.map {B : Nat} {T1 T2 : TypeId} {w w' : World} (h : RTurn B T1 T2 w w') {P : Program} {k : TypeId} {R : Value → Option (DataW Unit × List MemPlace)} {b n : Nat} {D : DataW Unit} (hm : w.ownsMap P k R b n D) : w'.ownsMap P k R b n D := by
  obtain ⟨es, clock, hb, r⟩ := hm
  exact ⟨es, clock, (h.maps b es clock hb).trans hb, r⟩
theorem RTurn.refl (B : Nat) (T1 T2 : TypeId) (w : World) : RTurn B T1 T2 w w := ⟨Turn.refl _ _ _ _, fun _ _ _ _ => rfl⟩
theorem RTurn.drew {B : Nat} {T1 T2 : TypeId} {w w' : World} (h : RTurn B T1 T2 w w') : RTurn B T1 T2 w w'.drew := ⟨h.turn.drew, h.maps⟩
theorem RTurn.set {B : Nat} {T1 T2 : TypeId} {w w' : World} (h : RTurn B T1 T2 w w') {a : Nat} (o : Nat) (hB : B ≤ a) (hr : RowOf w' T1 T2 a) (v : Value) : RTurn B T1 T2 w (w'.setCell ⟨a, o, none⟩ v) :=
  ⟨h.turn.set o hB hr v, fun b es c hb => by
    have e := h.maps b es c hb
    obtain ⟨cs, t, h1, _⟩ := hr
    have hne : b ≠ a := by
      rintro rfl
      rw [e, hb] at h1
      cases h1
    rw [Below.heap_setCell w' ⟨a, o, none⟩ v b hne]; exact e⟩
theorem ring_row {w : World} {tb : Nat} {HT : TypeId} {T : TypeId} {G : List (Nat × Cn)} {B : Nat} (h1 : B ≤ tb) (h2 : ∀ p ∈ G, B ≤ p.1) {b : Nat}
    (hs : (b = tb ∧ ∃ cs, w.heap[b]? = some (.cells cs HT (0, 0))) ∨ (∃ x ∈ nds G, b = x.g ∧ ∃ cs, w.heap[b]? = some (.cells cs T (0, 0)))) : B ≤ b ∧ RowOf w T HT b := by
  rcases hs with ⟨rfl, cs, hc⟩ | ⟨x, hx, rfl, cs, hc⟩
  · exact ⟨h1, cs, _, hc, .inr rfl⟩
  · obtain ⟨p, hp, rfl⟩ := nds_mem hx
    exact ⟨h2 p hp, cs, _, hc, .inl rfl⟩
theorem adrN_ne {pb : Nat} {pre : List Value} {np : Nat} {L : List Nd} (hd : (L.map (·.g)).Nodup) (hn : ∀ x ∈ L, x.g ≠ pb) {k i b o : Nat} {x : Nd} (hx : L[k]? = some x) (e : adr (hdA pb pre np) L i = ⟨b, o, none⟩) (hi : i ≠ k + 1) : b ≠ x.g := by
  intro h
  have h2 := (adr_in_node (ho := pre.length - np) hd hn hx i).1 (by unfold hdA at e; rw [e]; exact h)
  exact hi h2
theorem adr_same_off {pb : Nat} {pre : List Value} {np : Nat} {L : List Nd} (hn : ∀ x ∈ L, x.g ≠ pb) {i j b1 o1 b2 o2 : Nat} (e1 : adr (hdA pb pre np) L i = ⟨b1, o1, none⟩) (e2 : adr (hdA pb pre np) L j = ⟨b2, o2, none⟩) : b1 = b2 → o1 = o2 := fun h => by
  have q1 := adr_off (ho := pre.length - np) hn i
  have q2 := adr_off (ho := pre.length - np) hn j
  unfold hdA at e1 e2
  rw [e1] at q1; rw [e2] at q2
  simp only at q1 q2
  rw [q1, q2, h]
set_option maxHeartbeats 1000000 in
theorem unlink_any (B tb : Nat) (pre : List Value) (G : List (Nat × Cn)) (k : Nat) (x : Nat × Cn) (w : World) (hR : Ring w tb 97 pre 3 95 (nds G)) (hB1 : B ≤ tb) (hB2 : ∀ p ∈ G, B ≤ p.1) (hx : G[k]? = some x) :
    Calls Try.prog 59 #[.pointer (some ⟨tb, 0, none⟩), .pointer (some ⟨x.1, 0, none⟩)] w fun e w' => e = .returned (.tuple #[]) ∧ Ring w' tb 97 pre 3 95 (nds (G.eraseIdx k)) ∧ w'.heap[x.1]? = w.heap[x.1]? ∧ RTurn B 95 97 w w' := by
  obtain ⟨n0, n1, n2, n3, n4⟩ := ring_node hR hx
  obtain ⟨b1, o1, e1⟩ := adr_form tb pre 3 (nds G) k
  obtain ⟨b2, o2, e2⟩ := adr_form tb pre 3 (nds G) (k + 2)
  have hk : k < G.length := (List.getElem?_eq_some_iff.1 hx).1
  have hkn : k < (nds G).length := by rw [nds_len]; exact hk
  obtain ⟨x1, f1, s1⟩ := hR.nx (i := k) (by omega) e1
  obtain ⟨x2, f2, s2⟩ := hR.pv (i := k + 1) (by omega) e2
  have hne1 : b1 ≠ x.1 := adrN_ne hR.nodup hR.nin (nds_get hx) e1 (by omega)
  have hne2 : b2 ≠ x.1 := adrN_ne hR.nodup hR.nin (nds_get hx) e2 (by omega)
  have HR := hR.erase hkn
  rw [e1, e2, nds_erase] at HR
  unfold joined at HR
  rw [e1] at n3
  rw [e2] at n4
  have HX : Hid (((w.setCell ⟨b1, o1 + (3 + 1), none⟩ (.pointer (some ⟨b2, o2, none⟩))).setCell ⟨b2, o2 + 3, none⟩ (.pointer (some ⟨b1, o1, none⟩))).drew.heap[x.1]? = w.heap[x.1]?) := Lib.hid (by
    show ((w.setCell ⟨b1, o1 + (3 + 1), none⟩ (.pointer (some ⟨b2, o2, none⟩))).setCell ⟨b2, o2 + 3, none⟩ (.pointer (some ⟨b1, o1, none⟩))).heap[x.1]? = _
    rw [Below.heap_setCell _ _ _ _ (fun h => hne2 h.symm), Below.heap_setCell _ _ _ _ (fun h => hne1 h.symm)])
  have HT : Hid (RTurn B 95 97 w ((w.setCell ⟨b1, o1 + (3 + 1), none⟩ (.pointer (some ⟨b2, o2, none⟩))).setCell ⟨b2, o2 + 3, none⟩ (.pointer (some ⟨b1, o1, none⟩))).drew) := Lib.hid (by
    obtain ⟨q1, r1⟩ := ring_row hB1 hB2 s1
    obtain ⟨q2, r2⟩ := ring_row hB1 hB2 s2
    exact (((RTurn.refl _ _ _ w).set _ q1 r1 _).set _ q2 (r2.set _ _ _) _).drew)
  have hoo := adr_same_off hR.nin e1 e2
  have m2 : (w.setCell ⟨b1, o1 + (3 + 1), none⟩ (.pointer (some ⟨b2, o2, none⟩))).cell? ⟨b2, o2 + 3, none⟩ = some (.pointer (some (adr (hdA tb pre 3) (nds G) (k + 1)))) := by
    rw [World.cell?_setCell_other w _ _ _ (fun h => by injection h with h1 h2 _; have := hoo h1; omega)]; exact x2
  have hHR := Lib.hid HR
  clear hoo HR hR hx e1 e2 s1 s2 hkn hk hB1 hB2
  rw [show o1 + (3 + 1) = o1 + 4 from rfl] at *
  obtain ⟨g, x⟩ := x
  simp only at *
  go_enter Try.func59, Try.ntmps59
  go_wp2
  go_region
  go_end0
  exact ⟨rfl, hHR.out.keep rfl fun _ _ => rfl, HX.out, HT.out⟩
set_option maxHeartbeats 1000000 in
theorem front_any (B tb : Nat) (pre : List Value) (G : List (Nat × Cn)) (g : Nat) (x : Cn) (u v : Value) (w : World) (hR : Ring w tb 97 pre 3 95 (nds G)) (hpre : pre.length = 6) (hB1 : B ≤ tb) (hB2 : ∀ p ∈ G, B ≤ p.1) (hBg : B ≤ g) (hg : ∀ p ∈ G, p.1 ≠ g) (hgt : g ≠ tb)
    (hrow : w.heap[g]? = some (.cells #[.string (bs x.o), .int .i64 x.id, .int .i64 x.wh, u, v] 95 (0, 0))) :
    Calls Try.prog 58 #[.pointer (some ⟨tb, 0, none⟩), .pointer (some ⟨g, 0, none⟩)] w fun e w' => e = .returned (.tuple #[]) ∧ Ring w' tb 97 pre 3 95 (nds ((g, x) :: G)) ∧ RTurn B 95 97 w w' := by
  obtain ⟨bf, of_, e1⟩ := adr_form tb pre 3 (nds G) 1
  have e0 : adr (hdA tb pre 3) (nds G) 0 = ⟨tb, 3, none⟩ := by show hdA tb pre 3 = _; unfold hdA; rw [hpre]
  have hfresh : ∀ y ∈ nds G, y.g ≠ g := fun y hy => by
    obtain ⟨p, hp, rfl⟩ := nds_mem hy
    exact hg p hp
  have r0 : RowOf w 95 97 g := ⟨_, _, hrow, .inl rfl⟩
  have hW1 : ((w.setCell ⟨g, 3, none⟩ (.pointer (some ⟨tb, 3, none⟩))).setCell ⟨g, 4, none⟩ (.pointer (some ⟨bf, of_, none⟩))).heap[g]? = some (.cells #[.string (bs x.o), .int .i64 x.id, .int .i64 x.wh, .pointer (some ⟨tb, 3, none⟩), .pointer (some ⟨bf, of_, none⟩)] 95 (0, 0)) := by
    rw [heap_set (heap_set hrow _ _ _), if_pos rfl, if_pos rfl]; rfl
  have hk1 : ∀ b, b ≠ g → ((w.setCell ⟨g, 3, none⟩ (.pointer (some ⟨tb, 3, none⟩))).setCell ⟨g, 4, none⟩ (.pointer (some ⟨bf, of_, none⟩))).heap[b]? = w.heap[b]? := fun b hb => by
    rw [Below.heap_setCell _ _ _ _ hb, Below.heap_setCell _ _ _ _ hb]
  have hR1 : Ring ((w.setCell ⟨g, 3, none⟩ (.pointer (some ⟨tb, 3, none⟩))).setCell ⟨g, 4, none⟩ (.pointer (some ⟨bf, of_, none⟩))) tb 97 pre 3 95 (nds G) :=
    hR.keep (hk1 tb (fun h => hgt h.symm)) fun y hy => hk1 y.g (hfresh y hy)
  obtain ⟨x0, f0, s0⟩ := hR1.nx (i := 0) (by omega) e0
  obtain ⟨x1, f1, s1⟩ := hR1.pv (i := 0) (by omega) e1
  obtain ⟨y0, y1, -⟩ := hR.nx (i := 0) (by omega) e0
  rw [e1] at y0
  have HI := hR1.insert (k := 0) (by omega) (x := ⟨g, cnC x⟩) hfresh hgt rfl (by rw [e0, e1]; exact hW1)
  rw [e0, e1] at HI
  unfold joined at HI
  have c3 : ((w.setCell ⟨g, 3, none⟩ (.pointer (some ⟨tb, 3, none⟩))).setCell ⟨g, 4, none⟩ (.pointer (some ⟨bf, of_, none⟩))).cell? ⟨g, 3, none⟩ = some (.pointer (some ⟨tb, 3, none⟩)) := by rw [cell_of_row _ _ 3 _ _ _ hW1]; rfl
  have c4 : ((w.setCell ⟨g, 3, none⟩ (.pointer (some ⟨tb, 3, none⟩))).setCell ⟨g, 4, none⟩ (.pointer (some ⟨bf, of_, none⟩))).cell? ⟨g, 4, none⟩ = some (.pointer (some ⟨bf, of_, none⟩)) := by rw [cell_of_row _ _ 4 _ _ _ hW1]; rfl
  have a3 : w.cell? ⟨g, 3, none⟩ = some u := by rw [cell_of_row _ _ _ _ _ _ hrow]; rfl
  have a4 : w.cell? ⟨g, 4, none⟩ = some v := by rw [cell_of_row _ _ _ _ _ _ hrow]; rfl
  have z3 : w.frozen? ⟨g, 3, none⟩ = false := by simp only [World.frozen?, hrow]; rfl
  have z4 : w.frozen? ⟨g, 4, none⟩ = false := by simp only [World.frozen?, hrow]; rfl
  have hoo := adr_same_off hR.nin e0 e1
  have m2 : (((w.setCell ⟨g, 3, none⟩ (.pointer (some ⟨tb, 3, none⟩))).setCell ⟨g, 4, none⟩ (.pointer (some ⟨bf, of_, none⟩))).setCell ⟨tb, 3 + (3 + 1), none⟩ (.pointer (some ⟨g, 0, none⟩))).cell? ⟨bf, of_ + 3, none⟩ = some (.pointer (some (adr (hdA tb pre 3) (nds G) 0))) := by
    rw [World.cell?_setCell_other _ _ _ _ (fun h => by injection h with h1 h2 _; have := hoo h1; omega)]; exact x1
  have HT : Hid (RTurn B 95 97 w ((((w.setCell ⟨g, 3, none⟩ (.pointer (some ⟨tb, 3, none⟩))).setCell ⟨g, 4, none⟩ (.pointer (some ⟨bf, of_, none⟩))).setCell ⟨tb, 3 + (3 + 1), none⟩ (.pointer (some ⟨g, 0, none⟩))).setCell ⟨bf, of_ + 3, none⟩ (.pointer (some ⟨g, 0, none⟩)))) := Lib.hid (by
    obtain ⟨q0, r1⟩ := ring_row hB1 hB2 s0
    obtain ⟨q1, r2⟩ := ring_row hB1 hB2 s1
    exact ((((RTurn.refl _ _ _ w).set _ hBg r0 _).set _ hBg (r0.set _ _ _) _).set _ q0 r1 _).set _ q1 (r2.set _ _ _) _)
  have hHI := Lib.hid HI
  clear hoo HI hR hR1 hk1 hW1 e0 e1 s0 s1 hrow hB1 hB2 hg hfresh r0 hpre
  rw [show 3 + (3 + 1) = 7 from rfl] at *
  go_enter Try.func58, Try.ntmps58
  go_wp2
  go_region
  go_wp2
  go_region
  go_end0
  exact ⟨rfl, Ring.keep (w := (((w.setCell ⟨g, 3, none⟩ (.pointer (some ⟨tb, 3, none⟩))).setCell ⟨g, 4, none⟩ (.pointer (some ⟨bf, of_, none⟩))).setCell ⟨tb, 7, none⟩ (.pointer (some ⟨g, 0, none⟩))).setCell ⟨bf, of_ + 3, none⟩ (.pointer (some ⟨g, 0, none⟩))) (L := nds ((g, x) :: G)) hHI.out rfl (fun _ _ => rfl), HT.out.drew.drew⟩
end Go.Proofs.Ytepedjnmliclkaa
