/- The bounded table at pairs of a text and a number. Conditions: items that are well (ItemsOK), at most 10^6 of them. -/
import Derived.Test.YtepedjnmliclkaaRefLP
import Derived.Test.YtepedjnmliclkaaLruM
import Derived.Test.YtepedjnmliclkaaLruPut
set_option linter.unusedVariables false
set_option linter.unusedSimpArgs false
namespace Go.Proofs.Ytepedjnmliclkaa
open Go.RowKit

set_option maxRecDepth 100000
/-- What a call leaves that turns rows of two types and one map alone. -/
structure TurnM (mb B : Nat) (T1 T2 : TypeId) (w w' : World) : Prop where
  turn : Turn B T1 T2 w w'
  maps : ∀ (b : Nat) (es : Array MapEntry) (c : Nat), b ≠ mb → w.heap[b]? = some (.map es c) → w'.heap[b]? = w.heap[b]?
section
variable {mb B : Nat} {T1 T2 : TypeId} {w w' w2 : World}
theorem TurnM.refl (mb B : Nat) (T1 T2 : TypeId) (w : World) : TurnM mb B T1 T2 w w := ⟨Turn.refl _ _ _ _, fun _ _ _ _ _ => rfl⟩
theorem TurnM.trans (h : TurnM mb B T1 T2 w w') (k : TurnM mb B T1 T2 w' w2) : TurnM mb B T1 T2 w w2 :=
  ⟨h.turn.trans k.turn, fun b es c hb he => by
    have e1 := h.maps b es c hb he
    exact (k.maps b es c hb (e1.trans he)).trans e1⟩
theorem TurnM.drew (h : TurnM mb B T1 T2 w w') : TurnM mb B T1 T2 w w'.drew := ⟨h.turn.drew, h.maps⟩
theorem TurnM.set (h : TurnM mb B T1 T2 w w') {a : Nat} (o : Nat) (hB : B ≤ a) (hr : RowOf w' T1 T2 a) (v : Value) : TurnM mb B T1 T2 w (w'.setCell ⟨a, o, none⟩ v) :=
  ⟨h.turn.set o hB hr v, fun b es c hb0 hb => by
    have e := h.maps b es c hb0 hb
    obtain ⟨cs, t, h1, _⟩ := hr
    have hne : b ≠ a := by
      rintro rfl
      rw [e, hb] at h1
      cases h1
    rw [Below.heap_setCell w' ⟨a, o, none⟩ v b hne]; exact e⟩
theorem RTurn.turnM (mb : Nat) (h : RTurn B T1 T2 w w') : TurnM mb B T1 T2 w w' := ⟨h.turn, fun b es c _ hb => h.maps b es c hb⟩
theorem mapTurned_turnM (h : w.mapTurned w' mb) (hB : B ≤ mb) (hw : B ≤ w.heap.size) : TurnM mb B T1 T2 w w' :=
  ⟨mapTurned_turn h hB hw, fun b es c hne hb => by
    have hg := h.grown
    refine hg.block b (Array.getElem?_eq_some_iff.1 hb).1 ?_
    intro e
    injection e with e
    exact hne e⟩
theorem turn_appM {C : Nat} {a : World} (h : TurnM mb B T1 T2 a w) (hb : Below C w w') (hC : a.heap.size ≤ C) (hB : B ≤ C) : TurnM mb B T1 T2 a w' :=
  ⟨turn_app h.turn hb hC hB, fun b es c hne he => by
    have e := h.maps b es c hne he
    have hlt : b < a.heap.size := (Array.getElem?_eq_some_iff.1 he).1
    rw [hb.block b (by omega), e]⟩
/-- A table of other types stays. -/
theorem TurnM.of_below (h : Below w.heap.size w w') (hB : B ≤ w.heap.size) : TurnM mb B T1 T2 w w' :=
  ⟨Turn.of_below h hB, fun b es c _ he => h.block b (Array.getElem?_eq_some_iff.1 he).1⟩
end
namespace LA
def cnC (x : Cn) : List Value := [.string (bs x.o), .string (bs x.o), .int .i64 x.id, .int .i64 x.wh]
def nds (G : List (Nat × Cn)) : List Nd := G.map fun p => ⟨p.1, cnC p.2⟩
theorem nds_get {G : List (Nat × Cn)} {k : Nat} {x : Nat × Cn} (h : G[k]? = some x) : (nds G)[k]? = some ⟨x.1, cnC x.2⟩ := by simp [nds, h]
theorem nds_len (G : List (Nat × Cn)) : (nds G).length = G.length := by simp [nds]
theorem nds_erase (G : List (Nat × Cn)) (k : Nat) : (nds G).eraseIdx k = nds (G.eraseIdx k) := by
  unfold nds
  induction G generalizing k with
  | nil => simp
  | cons x r ih => cases k with
    | zero => simp
    | succ k => simp [ih]
theorem nds_mem {G : List (Nat × Cn)} {x : Nd} (h : x ∈ nds G) : ∃ p ∈ G, x = ⟨p.1, cnC p.2⟩ := by
  unfold nds at h
  obtain ⟨p, hp, rfl⟩ := List.mem_map.1 h
  exact ⟨p, hp, rfl⟩
def lruPre (room used : Int) (mb : Nat) : List Value := [.int .i64 room, .int .i64 used, .map (some mb), .string ⟨#[]⟩, .string ⟨#[]⟩, .int .i64 0, .int .i64 0]
/-- The table at block tb: its room, what is used, its map's block, its nodes in their order; all blocks from B on. -/
structure LruW (w : World) (B tb : Nat) (room used : Int) (mb N : Nat) (G : List (Nat × Cn)) : Prop where
  ring : Ring w tb 104 (lruPre room used mb) 4 102 (nds G)
  map : ∃ D, w.ownsMap Try.prog 9 ptrR mb N D ∧ ∀ s : List UInt8, s.length ≤ maxLen → D.atKey (.string s) .nil = elD (lookL G s)
  base : B ≤ tb ∧ B ≤ mb ∧ ∀ p ∈ G, B ≤ p.1
theorem LruW.step {w w' : World} {B tb mb N : Nat} {room used : Int} {G : List (Nat × Cn)} (h : LruW w B tb room used mb N G) (hb : Below w.heap.size w w') : LruW w' B tb room used mb N G := by
  obtain ⟨D, h1, h2⟩ := h.map
  exact ⟨h.ring.step hb, ⟨D, h1.kept (row := none) ⟨hb.os, hb.tape, hb.output, hb.size, fun k hk _ => hb.block k hk⟩ (by simp), h2⟩, h.base⟩
theorem LruW.drew {w : World} {B tb mb N : Nat} {room used : Int} {G : List (Nat × Cn)} (h : LruW w B tb room used mb N G) : LruW w.drew B tb room used mb N G := ⟨h.ring.keep rfl fun _ _ => rfl, h.map, h.base⟩
theorem LruW.drewN {w : World} {B tb mb N : Nat} {room used : Int} {G : List (Nat × Cn)} (h : LruW w B tb room used mb N G) (n : Nat) : LruW (w.drewN n) B tb room used mb N G := ⟨h.ring.keep rfl fun _ _ => rfl, h.map, h.base⟩
theorem LruW.cells {w : World} {B tb mb N : Nat} {room used : Int} {G : List (Nat × Cn)} (h : LruW w B tb room used mb N G) :
    w.cell? ⟨tb, 0, none⟩ = some (.int .i64 room) ∧ w.cell? ⟨tb, 1, none⟩ = some (.int .i64 used) ∧ w.cell? ⟨tb, 2, none⟩ = some (.map (some mb)) ∧ w.frozen? ⟨tb, 1, none⟩ = false := by
  have hh := h.ring.head
  refine ⟨?_, ?_, ?_, by simp only [World.frozen?, hh]; rfl⟩ <;> rw [cell_of_row _ _ _ _ _ _ hh] <;> rfl
theorem ring_node {w : World} {tb : Nat} {HT : TypeId} {pre : List Value} {T : TypeId} {G : List (Nat × Cn)} (h : Ring w tb HT pre 4 T (nds G)) {k : Nat} {x : Nat × Cn} (hx : G[k]? = some x) :
    w.cell? ⟨x.1, 0, none⟩ = some (.string (bs x.2.o)) ∧ w.cell? ⟨x.1, 1, none⟩ = some (.string (bs x.2.o)) ∧ w.cell? ⟨x.1, 2, none⟩ = some (.int .i64 x.2.id) ∧ w.cell? ⟨x.1, 3, none⟩ = some (.int .i64 x.2.wh) ∧
      w.cell? ⟨x.1, 4, none⟩ = some (.pointer (some (adr (hdA tb pre 4) (nds G) k))) ∧ w.cell? ⟨x.1, 5, none⟩ = some (.pointer (some (adr (hdA tb pre 4) (nds G) (k + 2)))) := by
  have hh := h.blk k _ (nds_get hx)
  refine ⟨?_, ?_, ?_, ?_, ?_, ?_⟩ <;> rw [cell_of_row _ _ _ _ _ _ hh] <;> rfl
theorem ring_row {w : World} {tb : Nat} {HT : TypeId} {T : TypeId} {G : List (Nat × Cn)} {B : Nat} (h1 : B ≤ tb) (h2 : ∀ p ∈ G, B ≤ p.1) {b : Nat}
    (hs : (b = tb ∧ ∃ cs, w.heap[b]? = some (.cells cs HT (0, 0))) ∨ (∃ x ∈ nds G, b = x.g ∧ ∃ cs, w.heap[b]? = some (.cells cs T (0, 0)))) : B ≤ b ∧ RowOf w T HT b := by
  rcases hs with ⟨rfl, cs, hc⟩ | ⟨x, hx, rfl, cs, hc⟩
  · exact ⟨h1, cs, _, hc, .inr rfl⟩
  · obtain ⟨p, hp, rfl⟩ := nds_mem hx
    exact ⟨h2 p hp, cs, _, hc, .inl rfl⟩
set_option maxHeartbeats 1000000 in
theorem unlink_any (B tb : Nat) (pre : List Value) (G : List (Nat × Cn)) (k : Nat) (x : Nat × Cn) (w : World) (hR : Ring w tb 104 pre 4 102 (nds G)) (hB1 : B ≤ tb) (hB2 : ∀ p ∈ G, B ≤ p.1) (hx : G[k]? = some x) :
    Calls Try.prog 77 #[.pointer (some ⟨tb, 0, none⟩), .pointer (some ⟨x.1, 0, none⟩)] w fun e w' => e = .returned (.tuple #[]) ∧ Ring w' tb 104 pre 4 102 (nds (G.eraseIdx k)) ∧ w'.heap[x.1]? = w.heap[x.1]? ∧ RTurn B 102 104 w w' := by
  obtain ⟨n0, n1b, n1, n2, n3, n4⟩ := ring_node hR hx
  obtain ⟨b1, o1, e1⟩ := adr_form tb pre 4 (nds G) k
  obtain ⟨b2, o2, e2⟩ := adr_form tb pre 4 (nds G) (k + 2)
  have hk : k < G.length := (List.getElem?_eq_some_iff.1 hx).1
  have hkn : k < (nds G).length := by rw [nds_len]; exact hk
  obtain ⟨x1, f1, s1⟩ := hR.nx (i := k) (by omega) e1
  obtain ⟨x2, f2, s2⟩ := hR.pv (i := k + 1) (by omega) e2
  have hne1 : b1 ≠ x.1 := adrN_ne hR.nodup hR.nin (nds_get hx) e1 (by omega)
  have hne2 : b2 ≠ x.1 := adrN_ne hR.nodup hR.nin (nds_get hx) e2 (by omega)
  have HR := hR.erase hkn
  rw [e1, e2, nds_erase] at HR
  unfold joined at HR
  rw [e1] at n3
  rw [e2] at n4
  have HX : Hid (((w.setCell ⟨b1, o1 + (4 + 1), none⟩ (.pointer (some ⟨b2, o2, none⟩))).setCell ⟨b2, o2 + 4, none⟩ (.pointer (some ⟨b1, o1, none⟩))).drew.heap[x.1]? = w.heap[x.1]?) := Lib.hid (by
    show ((w.setCell ⟨b1, o1 + (4 + 1), none⟩ (.pointer (some ⟨b2, o2, none⟩))).setCell ⟨b2, o2 + 4, none⟩ (.pointer (some ⟨b1, o1, none⟩))).heap[x.1]? = _
    rw [Below.heap_setCell _ _ _ _ (fun h => hne2 h.symm), Below.heap_setCell _ _ _ _ (fun h => hne1 h.symm)])
  have HT : Hid (RTurn B 102 104 w ((w.setCell ⟨b1, o1 + (4 + 1), none⟩ (.pointer (some ⟨b2, o2, none⟩))).setCell ⟨b2, o2 + 4, none⟩ (.pointer (some ⟨b1, o1, none⟩))).drew) := Lib.hid (by
    obtain ⟨q1, r1⟩ := ring_row hB1 hB2 s1
    obtain ⟨q2, r2⟩ := ring_row hB1 hB2 s2
    exact (((RTurn.refl _ _ _ w).set _ q1 r1 _).set _ q2 (r2.set _ _ _) _).drew)
  have hoo := adr_same_off hR.nin e1 e2
  have m2 : (w.setCell ⟨b1, o1 + (4 + 1), none⟩ (.pointer (some ⟨b2, o2, none⟩))).cell? ⟨b2, o2 + 4, none⟩ = some (.pointer (some (adr (hdA tb pre 4) (nds G) (k + 1)))) := by
    rw [World.cell?_setCell_other w _ _ _ (fun h => by injection h with h1 h2 _; have := hoo h1; omega)]; exact x2
  have hHR := Lib.hid HR
  clear hoo HR hR hx e1 e2 s1 s2 hkn hk hB1 hB2
  rw [show o1 + (4 + 1) = o1 + 5 from rfl] at *
  obtain ⟨g, x⟩ := x
  simp only at *
  go_enter Try.func77, Try.ntmps77
  go_wp2
  go_region
  go_end0
  exact ⟨rfl, hHR.out.keep rfl fun _ _ => rfl, HX.out, HT.out⟩
set_option maxHeartbeats 1000000 in
theorem front_any (B tb : Nat) (pre : List Value) (G : List (Nat × Cn)) (g : Nat) (x : Cn) (u v : Value) (w : World) (hR : Ring w tb 104 pre 4 102 (nds G)) (hpre : pre.length = 7) (hB1 : B ≤ tb) (hB2 : ∀ p ∈ G, B ≤ p.1) (hBg : B ≤ g) (hg : ∀ p ∈ G, p.1 ≠ g) (hgt : g ≠ tb)
    (hrow : w.heap[g]? = some (.cells #[.string (bs x.o), .string (bs x.o), .int .i64 x.id, .int .i64 x.wh, u, v] 102 (0, 0))) :
    Calls Try.prog 61 #[.pointer (some ⟨tb, 0, none⟩), .pointer (some ⟨g, 0, none⟩)] w fun e w' => e = .returned (.tuple #[]) ∧ Ring w' tb 104 pre 4 102 (nds ((g, x) :: G)) ∧ RTurn B 102 104 w w' := by
  obtain ⟨bf, of_, e1⟩ := adr_form tb pre 4 (nds G) 1
  have e0 : adr (hdA tb pre 4) (nds G) 0 = ⟨tb, 3, none⟩ := by show hdA tb pre 4 = _; unfold hdA; rw [hpre]
  have hfresh : ∀ y ∈ nds G, y.g ≠ g := fun y hy => by
    obtain ⟨p, hp, rfl⟩ := nds_mem hy
    exact hg p hp
  have r0 : RowOf w 102 104 g := ⟨_, _, hrow, .inl rfl⟩
  have hW1 : ((w.setCell ⟨g, 4, none⟩ (.pointer (some ⟨tb, 3, none⟩))).setCell ⟨g, 5, none⟩ (.pointer (some ⟨bf, of_, none⟩))).heap[g]? = some (.cells #[.string (bs x.o), .string (bs x.o), .int .i64 x.id, .int .i64 x.wh, .pointer (some ⟨tb, 3, none⟩), .pointer (some ⟨bf, of_, none⟩)] 102 (0, 0)) := by
    rw [heap_set (heap_set hrow _ _ _), if_pos rfl, if_pos rfl]; rfl
  have hk1 : ∀ b, b ≠ g → ((w.setCell ⟨g, 4, none⟩ (.pointer (some ⟨tb, 3, none⟩))).setCell ⟨g, 5, none⟩ (.pointer (some ⟨bf, of_, none⟩))).heap[b]? = w.heap[b]? := fun b hb => by
    rw [Below.heap_setCell _ _ _ _ hb, Below.heap_setCell _ _ _ _ hb]
  have hR1 : Ring ((w.setCell ⟨g, 4, none⟩ (.pointer (some ⟨tb, 3, none⟩))).setCell ⟨g, 5, none⟩ (.pointer (some ⟨bf, of_, none⟩))) tb 104 pre 4 102 (nds G) :=
    hR.keep (hk1 tb (fun h => hgt h.symm)) fun y hy => hk1 y.g (hfresh y hy)
  obtain ⟨x0, f0, s0⟩ := hR1.nx (i := 0) (by omega) e0
  obtain ⟨x1, f1, s1⟩ := hR1.pv (i := 0) (by omega) e1
  obtain ⟨y0, y1, -⟩ := hR.nx (i := 0) (by omega) e0
  rw [e1] at y0
  have HI := hR1.insert (k := 0) (by omega) (x := ⟨g, cnC x⟩) hfresh hgt rfl (by rw [e0, e1]; exact hW1)
  rw [e0, e1] at HI
  unfold joined at HI
  have c3 : ((w.setCell ⟨g, 4, none⟩ (.pointer (some ⟨tb, 3, none⟩))).setCell ⟨g, 5, none⟩ (.pointer (some ⟨bf, of_, none⟩))).cell? ⟨g, 4, none⟩ = some (.pointer (some ⟨tb, 3, none⟩)) := by rw [cell_of_row _ _ 4 _ _ _ hW1]; rfl
  have c4 : ((w.setCell ⟨g, 4, none⟩ (.pointer (some ⟨tb, 3, none⟩))).setCell ⟨g, 5, none⟩ (.pointer (some ⟨bf, of_, none⟩))).cell? ⟨g, 5, none⟩ = some (.pointer (some ⟨bf, of_, none⟩)) := by rw [cell_of_row _ _ 5 _ _ _ hW1]; rfl
  have a3 : w.cell? ⟨g, 4, none⟩ = some u := by rw [cell_of_row _ _ _ _ _ _ hrow]; rfl
  have a4 : w.cell? ⟨g, 5, none⟩ = some v := by rw [cell_of_row _ _ _ _ _ _ hrow]; rfl
  have z3 : w.frozen? ⟨g, 4, none⟩ = false := by simp only [World.frozen?, hrow]; rfl
  have z4 : w.frozen? ⟨g, 5, none⟩ = false := by simp only [World.frozen?, hrow]; rfl
  have hoo := adr_same_off hR.nin e0 e1
  have m2 : (((w.setCell ⟨g, 4, none⟩ (.pointer (some ⟨tb, 3, none⟩))).setCell ⟨g, 5, none⟩ (.pointer (some ⟨bf, of_, none⟩))).setCell ⟨tb, 3 + (4 + 1), none⟩ (.pointer (some ⟨g, 0, none⟩))).cell? ⟨bf, of_ + 4, none⟩ = some (.pointer (some (adr (hdA tb pre 4) (nds G) 0))) := by
    rw [World.cell?_setCell_other _ _ _ _ (fun h => by injection h with h1 h2 _; have := hoo h1; omega)]; exact x1
  have HT : Hid (RTurn B 102 104 w ((((w.setCell ⟨g, 4, none⟩ (.pointer (some ⟨tb, 3, none⟩))).setCell ⟨g, 5, none⟩ (.pointer (some ⟨bf, of_, none⟩))).setCell ⟨tb, 3 + (4 + 1), none⟩ (.pointer (some ⟨g, 0, none⟩))).setCell ⟨bf, of_ + 4, none⟩ (.pointer (some ⟨g, 0, none⟩)))) := Lib.hid (by
    obtain ⟨q0, r1⟩ := ring_row hB1 hB2 s0
    obtain ⟨q1, r2⟩ := ring_row hB1 hB2 s1
    exact ((((RTurn.refl _ _ _ w).set _ hBg r0 _).set _ hBg (r0.set _ _ _) _).set _ q0 r1 _).set _ q1 (r2.set _ _ _) _)
  have hHI := Lib.hid HI
  clear hoo HI hR hR1 hk1 hW1 e0 e1 s0 s1 hrow hB1 hB2 hg hfresh r0 hpre
  rw [show 3 + (4 + 1) = 8 from rfl] at *
  go_enter Try.func61, Try.ntmps61
  go_wp2
  go_region
  go_wp2
  go_region
  go_end0
  exact ⟨rfl, Ring.keep (w := (((w.setCell ⟨g, 4, none⟩ (.pointer (some ⟨tb, 3, none⟩))).setCell ⟨g, 5, none⟩ (.pointer (some ⟨bf, of_, none⟩))).setCell ⟨tb, 8, none⟩ (.pointer (some ⟨g, 0, none⟩))).setCell ⟨bf, of_ + 4, none⟩ (.pointer (some ⟨g, 0, none⟩))) (L := nds ((g, x) :: G)) hHI.out rfl (fun _ _ => rfl), HT.out.drew.drew⟩
set_option maxRecDepth 100000 in
set_option maxHeartbeats 1000000 in
theorem lruRemove_any (B tb mb N : Nat) (room used : Int) (G : List (Nat × Cn)) (k : Nat) (x : Nat × Cn) (w : World) (h : LruW w B tb room used mb N G) (hx : G[k]? = some x) (hn : KeysOK (G.map (·.2))) (hkl : x.2.o.length ≤ maxLen) (hu1 : 0 ≤ used) (hu2 : used ≤ 4294967296) (hs1 : 0 ≤ x.2.wh) (hs2 : x.2.wh ≤ 4294967296) :
    Calls Try.prog 60 #[.pointer (some ⟨tb, 0, none⟩), .pointer (some ⟨x.1, 0, none⟩)] w fun e w' => e = .returned (.tuple #[]) ∧ LruW w' B tb room (used - x.2.wh) mb N (G.eraseIdx k) ∧ TurnM mb B 102 104 w w' := by
  obtain ⟨D, hm, hat⟩ := h.map
  have hMD : MapOK D G := hat
  obtain ⟨hb1, hb2, hb3⟩ := h.base
  have hU := unlink_any B tb (lruPre room used mb) G k x w h.ring hb1 hb3 hx
  have hnode := h.ring.blk k _ (nds_get hx)
  have HE := Lib.hid (look_erase hn hx)
  have HM := Lib.hid hMD
  have HK := Lib.hid (keyIs hkl)
  have HB := Lib.hid h.base
  have hBw : B ≤ w.heap.size := by have := h.ring.lt; omega
  have hIB : Hid (∀ p ∈ G.eraseIdx k, B ≤ p.1) := Lib.hid fun p hp => hb3 p (List.mem_of_mem_eraseIdx hp)
  clear h hx hn hkl hat hMD hb1 hb3
  obtain ⟨g, x⟩ := x
  dsimp only at *
  go_enter Try.func60, Try.ntmps60
  go_wp2_with fail
  refine hU.mono ?_
  rintro e w1 ⟨rfl, hR1, hsame, hT1⟩
  have hm1 := hT1.map hm
  have hn1 := hsame.trans hnode
  have hh1 := hR1.head
  have c2 : w1.cell? ⟨tb, 2, none⟩ = some (.map (some mb)) := by rw [cell_of_row _ _ _ _ _ _ hh1]; rfl
  have d0 : w1.cell? ⟨g, 0, none⟩ = some (.string (bs x.o)) := by rw [cell_of_row _ _ _ _ _ _ hn1]; rfl
  have HT1 := Lib.hid hT1
  have HR1 := Lib.hid hR1
  have HN1 := Lib.hid hn1
  clear hU hR1 hsame hnode hT1 hm hn1 hh1
  go_wp2
  go_still_tail 8, (by kernel_rfl)
  change wpList _ _ _ _ _ w1.drew
  go_wp2_with (at_delete; refine wpList_delete_own _ rfl _ _ 99 9 rfl 100 law Try.underlying99 ptrR mb N D rfl hm1 _ _ rfl HK.out ?_; intro w2 hown2 hturn2)
  have hR2 : Ring w2 tb 104 (lruPre room used mb) 4 102 (nds (G.eraseIdx k)) := mapTurned_ring (w := w1.drew) hturn2 (HR1.out.keep rfl fun _ _ => rfl)
  have hn2 := (mapTurned_row (w := w1.drew) hturn2 HN1.out).trans HN1.out
  have hh2 := hR2.head
  have c1 : w2.cell? ⟨tb, 1, none⟩ = some (.int .i64 used) := by rw [cell_of_row _ _ _ _ _ _ hh2]; rfl
  have f1 : w2.frozen? ⟨tb, 1, none⟩ = false := by simp only [World.frozen?, hh2]; rfl
  have d2 : w2.cell? ⟨g, 3, none⟩ = some (.int .i64 x.wh) := by rw [cell_of_row _ _ _ _ _ _ hn2]; rfl
  have hne : mb ≠ tb := by
    rintro rfl
    obtain ⟨es, clock, hb, _⟩ := hown2
    rw [hh2] at hb; cases hb
  have hBw1 : B ≤ w1.heap.size := Nat.le_trans hBw HT1.out.turn.below.size
  have HF : Hid (LruW ((w2.setCell ⟨tb, 1, none⟩ (.int .i64 (used - x.wh)))) B tb room (used - x.wh) mb N (G.eraseIdx k)) := Lib.hid
    ⟨hR2.setPre 1 (by simp [lruPre]) (.int .i64 (used - x.wh)), ⟨_, hown2.setCell (a := ⟨tb, 1, none⟩) hne _, HM.out.del HE.out⟩, HB.out.1, HB.out.2.1, hIB.out⟩
  have HT : Hid (TurnM mb B 102 104 w (w2.setCell ⟨tb, 1, none⟩ (.int .i64 (used - x.wh)))) := Lib.hid
    ((((HT1.out.turnM mb).trans ((TurnM.refl mb _ _ _ w1).drew.trans (mapTurned_turnM hturn2 hb2 hBw1)))).set _ HB.out.1 ⟨_, _, hh2, .inr rfl⟩ _)
  have hw : IntKind.i64.wrap (used - x.wh) = used - x.wh := IntWalk.i64_in _ (by omega)
  clear hown2 hturn2 hR2 hn2 hh2 hne hm1 c2 d0
  go_wp2
  go_region
  all_goals
    go_end0
    exact ⟨rfl, HF.out.drew, HT.out.drew⟩
/-- The table, told by its items alone. -/
def LruX (w : World) (B tb : Nat) (room : Int) (mb N : Nat) (xs : List Cn) : Prop := ∃ G, G.map (·.2) = xs ∧ LruW w B tb room (sumW xs) mb N G
theorem LruX.step {w w' : World} {B tb mb N : Nat} {room : Int} {xs : List Cn} (h : LruX w B tb room mb N xs) (hb : Below w.heap.size w w') : LruX w' B tb room mb N xs := by
  obtain ⟨G, h1, h2⟩ := h
  exact ⟨G, h1, h2.step hb⟩
theorem LruX.drew {w : World} {B tb mb N : Nat} {room : Int} {xs : List Cn} (h : LruX w B tb room mb N xs) : LruX w.drew B tb room mb N xs := by
  obtain ⟨G, h1, h2⟩ := h
  exact ⟨G, h1, h2.drew⟩
theorem LruX.drewN {w : World} {B tb mb N : Nat} {room : Int} {xs : List Cn} (h : LruX w B tb room mb N xs) (n : Nat) : LruX (w.drewN n) B tb room mb N xs := by
  obtain ⟨G, h1, h2⟩ := h
  exact ⟨G, h1, h2.drewN n⟩
theorem LruX.lt {w : World} {B tb mb N : Nat} {room : Int} {xs : List Cn} (h : LruX w B tb room mb N xs) : B ≤ w.heap.size := by
  obtain ⟨G, h1, h2⟩ := h
  have := h2.ring.lt
  have := h2.base.1
  omega
theorem zeroP (w : World) : (zeroValue 100).run Try.prog w = .ok (.pointer none) w := by kernel_rfl
theorem look_run {w : World} {B tb mb N : Nat} {room used : Int} {G : List (Nat × Cn)} (h : LruW w B tb room used mb N G) {s : List UInt8} (hs : s.length ≤ maxLen) :
    (Instr.lookup 99 (.map (some mb)) (.string (bs s)) false).run Try.prog w = .ok (.pointer ((lookL G s).map fun g => ⟨g, 0, none⟩)) w := by
  obtain ⟨D, hm, hat⟩ := h.map
  obtain ⟨v, ps, hrun, hv⟩ := hm.lookup law Try.underlying99 (zeroP w) ptrR_nil (keyIs hs)
  rw [hrun]
  rw [hat s hs] at hv
  cases hl : lookL G s with
  | none => rw [hl] at hv; rw [ptrR_inv_nil hv]; rfl
  | some g => rw [hl] at hv; rw [ptrR_inv_some hv]; rfl
set_option maxHeartbeats 1000000 in
theorem lruNew_any (room : Int) (w : World) :
    Calls Try.prog 30 #[.int .i64 room] w fun e w' => ∃ tb mb, e = .returned (.pointer (some ⟨tb, 0, none⟩)) ∧ LruX w' w.heap.size tb (roomL room) mb 0 [] ∧ Below w.heap.size w w' := by
  have hmm := @run_makeMap Try.prog
  have hal1 := alloc_below w (.map #[] 0)
  have hm0 := World.ownsMap_made w Try.prog 9 ptrR
  have hal2 := alloc_below (w.alloc (.map #[] 0)) (.cells #[.int .i64 (roomL room), .int .i64 0, .map (some w.heap.size), .string ⟨#[]⟩, .string ⟨#[]⟩, .int .i64 0, .int .i64 0, .pointer (some ⟨w.heap.size + 1, 3, none⟩), .pointer (some ⟨w.heap.size + 1, 3, none⟩)] 104)
  have hnew := heap_alloc_new (w.alloc (.map #[] 0)) (.cells #[.int .i64 (roomL room), .int .i64 0, .map (some w.heap.size), .string ⟨#[]⟩, .string ⟨#[]⟩, .int .i64 0, .int .i64 0, .pointer (some ⟨w.heap.size + 1, 3, none⟩), .pointer (some ⟨w.heap.size + 1, 3, none⟩)] 104)
  rw [show (w.alloc (.map #[] 0)).heap.size = w.heap.size + 1 by simp] at hnew
  have HR : Hid (LruX ((w.alloc (.map #[] 0)).alloc (.cells #[.int .i64 (roomL room), .int .i64 0, .map (some w.heap.size), .string ⟨#[]⟩, .string ⟨#[]⟩, .int .i64 0, .int .i64 0, .pointer (some ⟨w.heap.size + 1, 3, none⟩), .pointer (some ⟨w.heap.size + 1, 3, none⟩)] 104)).drew w.heap.size (w.heap.size + 1) (roomL room) w.heap.size 0 []) :=
    Lib.hid ⟨[], rfl, (⟨Ring.new (pre := lruPre (roomL room) 0 w.heap.size) (np := 4) 102 (by simp [lruPre]) hnew, ⟨_, hm0.alloc _, fun s hs => by simp [lookL, elD, DataW.atKey]⟩, by omega, by omega, by simp⟩ : LruW _ w.heap.size (w.heap.size + 1) (roomL room) 0 w.heap.size 0 []).drew⟩
  have HB := Lib.hid (bnext hal1 hal2 hal1.size).drew
  have HRO : Hid (roomL room = if room < 0 then 0 else if 1073741824 < room then 1073741824 else room) := Lib.hid rfl
  clear hal1 hal2 hm0 hnew
  have hcs : room < 0 ∨ (¬ room < 0 ∧ 1073741824 < room) ∨ (¬ room < 0 ∧ ¬ 1073741824 < room) := by omega
  rcases hcs with h1 | ⟨h1, h2⟩ | ⟨h1, h2⟩
  · rw [show roomL room = 0 by rw [HRO.out, if_pos h1]] at HR HB ⊢
    go_enter Try.func30, Try.ntmps30
    go_wp2
    go_region
    go_wp2
    go_ret
    exact ⟨w.heap.size + 1, w.heap.size, rfl, HR.out, HB.out⟩
  · rw [show roomL room = 1073741824 by rw [HRO.out, if_neg h1, if_pos h2]] at HR HB ⊢
    go_enter Try.func30, Try.ntmps30
    go_wp2
    go_region
    go_wp2
    go_ret
    exact ⟨w.heap.size + 1, w.heap.size, rfl, HR.out, HB.out⟩
  · rw [show roomL room = room by rw [HRO.out, if_neg h1, if_neg h2]] at HR HB ⊢
    go_enter Try.func30, Try.ntmps30
    go_wp2
    go_region
    go_wp2
    go_ret
    exact ⟨w.heap.size + 1, w.heap.size, rfl, HR.out, HB.out⟩
theorem lruUsed_any (B tb mb N : Nat) (room : Int) (xs : List Cn) (w : World) (h : LruX w B tb room mb N xs) : Calls Try.prog 40 #[.pointer (some ⟨tb, 0, none⟩)] w fun e w' => e = .returned (.int .i64 (sumW xs)) ∧ w = w' := by
  obtain ⟨G, rfl, hw⟩ := h
  have c1 := hw.cells.2.1
  generalize sumW (G.map (·.2)) = u at *
  clear hw
  go_enter Try.func40, Try.ntmps40
  go_wp2
  go_ret
  exact ⟨rfl, rfl⟩
def peekV : Option Cn → Value
  | some x => .tuple #[.agg #[.string (bs x.o), .int .i64 x.id], .bool true]
  | none => .tuple #[.agg #[.string ⟨#[]⟩, .int .i64 0], .bool false]
set_option maxHeartbeats 1000000 in
theorem lruPeek_any (B tb mb N : Nat) (room : Int) (xs : List Cn) (s : List UInt8) (w : World) (h : LruX w B tb room mb N xs) (hn : KeysOK xs) (hs : s.length ≤ maxLen) : Calls Try.prog 36 #[.pointer (some ⟨tb, 0, none⟩), .string (bs s)] w fun e w' => e = .returned (peekV (findK s xs)) ∧ Below w.heap.size w w' := by
  have hal := alloc_below w (.cells #[.string ⟨#[]⟩, .int .i64 0] 53)
  have hr4 := heap_alloc_new w (.cells #[.string ⟨#[]⟩, .int .i64 0] 53)
  replace h := h.step hal
  obtain ⟨G, rfl, hw⟩ := h
  have c2 := hw.cells.2.2.1
  have hr := look_run hw hs
  obtain ⟨hf0, hf1⟩ := find_of_look (G := G) (s := s)
  cases hl : lookL G s with
  | none =>
    rw [hl] at hr
    have HF := Lib.hid (hf0 hl)
    rw [HF.out]
    clear hf0 hf1 hl hw hs hn
    simp only [Option.map_none] at hr
    unfold peekV
    go_enter Try.func36, Try.ntmps36
    go_upto_region 1 with fail
    generalize w.alloc (.cells #[.string ⟨#[]⟩, .int .i64 0] 53) = w1 at *
    go_upto_region 4 with fail
    have hal2 := alloc_below w1 (.cells #[.string ⟨#[]⟩, .int .i64 0] 53)
    have hr7 := heap_alloc_new w1 (.cells #[.string ⟨#[]⟩, .int .i64 0] 53)
    replace hr4 := row_keep hr4 hal2
    have hb := bnext hal hal2 hal.size
    generalize w1.alloc (.cells #[.string ⟨#[]⟩, .int .i64 0] 53) = w2 at *
    obtain ⟨p0, p1, -, -⟩ := row_facts2 hr7
    obtain ⟨q0, q1, f0, f1⟩ := row_facts2 hr4
    clear hr hr4 hr7 c2 hal hal2
    go_wp2
    refine bodyPost_ret (v := .tuple #[.agg #[.string ⟨#[]⟩, .int .i64 0], .bool false]) (by simp [results, Try.results36, go_sem, q0, q1]) rfl ⟨rfl, (hb.setCell (by simp) _).setCell (by simp) _⟩
  | some g =>
    obtain ⟨k, x, hx, rfl, hxs⟩ := look_is hl
    rw [hl] at hr
    have HF := Lib.hid (hf1 k x hn hx hxs)
    rw [HF.out]
    have d1 := (ring_node hw.ring hx).2.1
    have d1b := (ring_node hw.ring hx).2.2.1
    clear hf0 hf1 hl hw hs hn hx hxs HF
    obtain ⟨g, x⟩ := x
    simp only [Option.map_some] at hr d1 d1b
    unfold peekV
    go_enter Try.func36, Try.ntmps36
    go_upto_region 1 with fail
    generalize w.alloc (.cells #[.string ⟨#[]⟩, .int .i64 0] 53) = w1 at *
    obtain ⟨q0, q1, f0, f1⟩ := row_facts2 hr4
    clear hr4
    go_wp2
    refine bodyPost_ret (v := .tuple #[.agg #[.string (bs x.o), .int .i64 x.id], .bool true]) (by simp [results, Try.results36, go_sem, q0, q1]) rfl ⟨rfl, (hal.setCell (by simp) _).setCell (by simp) _⟩
set_option maxRecDepth 100000 in
set_option maxHeartbeats 1000000 in
theorem lruDrop_any (B tb mb N : Nat) (room : Int) (xs : List Cn) (s : List UInt8) (w : World) (h : LruX w B tb room mb N xs) (hi : ItemsOK room xs) (hs : s.length ≤ maxLen) : Calls Try.prog 34 #[.pointer (some ⟨tb, 0, none⟩), .string (bs s)] w fun e w' => e = .returned (.bool (findK s xs).isSome) ∧ LruX w' B tb room mb N (woL s xs) ∧ TurnM mb B 102 104 w w' := by
  obtain ⟨G, rfl, hw⟩ := h
  have c2 := hw.cells.2.2.1
  have hr := look_run hw hs
  obtain ⟨hf0, hf1⟩ := find_of_look (G := G) (s := s)
  cases hl : lookL G s with
  | none =>
    rw [hl] at hr
    have HF := Lib.hid (hf0 hl)
    have HW : Hid (LruX w B tb room mb N (woL s (G.map (·.2)))) := Lib.hid (by
      rw [woL_none (fun x hx => by
        obtain ⟨p, hp, rfl⟩ := List.mem_map.1 hx
        exact look_not hl p hp)]
      exact ⟨G, rfl, hw⟩)
    rw [HF.out]
    clear hf0 hf1 hl hw hs hi
    simp only [Option.map_none] at hr
    go_enter Try.func34, Try.ntmps34
    go_wp2
    go_ret
    exact ⟨rfl, HW.out, TurnM.refl _ _ _ _ _⟩
  | some g =>
    obtain ⟨k, x, hx, rfl, hxs⟩ := look_is hl
    rw [hl] at hr
    have HF := Lib.hid (hf1 k x hi.keys hx hxs)
    rw [HF.out]
    have hm := hi.each x.2 (mem_of_get? (mapGet hx))
    have hsm := sumW_mem (xs := G.map (·.2)) (fun y hy => (hi.each y hy).2) (mapGet hx)
    have h0 := sumW_nonneg (xs := G.map (·.2)) fun y hy => (hi.each y hy).2
    have h1 := hi.sum
    have h2 := hi.room
    have hR := lruRemove_any B tb mb N room (sumW (G.map (·.2))) G k x w hw hx hi.keys hm.1 h0 (by omega) hm.2 (by omega)
    have HS := Lib.hid (sumW_erase (mapGet hx))
    have HE : Hid ((G.eraseIdx k).map (·.2) = woL s (G.map (·.2))) := Lib.hid (by
      rw [mapErase, erase_woL hi.keys (mapGet hx), hxs])
    clear hf0 hf1 hl hw hs hx hxs HF hm hsm h0 h1 h2 hi
    obtain ⟨g, x⟩ := x
    simp only [Option.map_some] at hr
    dsimp only at hR
    go_enter Try.func34, Try.ntmps34
    go_wp2_with fail
    refine hR.mono ?_
    rintro e w1 ⟨rfl, hw1, ht1⟩
    have HW1 := Lib.hid hw1
    clear hw1 hR
    go_wp2
    go_ret
    refine ⟨rfl, ⟨G.eraseIdx k, HE.out, ?_⟩, ht1⟩
    rw [← HE.out, mapErase, HS.out]
    exact HW1.out
theorem node_info : (Try.prog.info? 102).map (fun i => i.size) = some 6 := by kernel_rfl
theorem neq_node_other (w : World) {a b : Addr} {ca cb : Array Value} {ta tb : TypeId} (hne : a ≠ b) (ha : w.heap[a.block]? = some (.cells ca ta (0, 0))) (hb : w.heap[b.block]? = some (.cells cb tb (0, 0))) :
    (binOp .neq 100 (.pointer (some a)) (.pointer (some b))).run Try.prog w = .ok (.bool true) w := by
  obtain ⟨i, hi, hs⟩ := Option.map_eq_some_iff.1 node_info
  exact run_neq_ptrL w Try.underlying100 hi (by omega) hne ha hb
theorem neq_node_same (w : World) (a : Addr) :
    (binOp .neq 100 (.pointer (some a)) (.pointer (some a))).run Try.prog w = .ok (.bool false) w := by
  obtain ⟨i, hi, hs⟩ := Option.map_eq_some_iff.1 node_info
  exact Lib.run_neq_ptr_same w a Try.underlying100 hi
/-- The table stays behind an append onto a row of texts. -/
theorem LruW.app {w w' : World} {B tb mb N : Nat} {room used : Int} {G : List (Nat × Cn)} (h : LruW w B tb room used mb N G) {C : Nat} {v : Value} {l : List (List UInt8)} (ho : OwnS w C v l) (hg : w.grownBy w' v.ownBlock) : LruW w' B tb room used mb N G := by
  obtain ⟨D, hm, hat⟩ := h.map
  refine ⟨h.ring.grown ho hg (by decide) (by decide), ⟨D, hm.kept hg ?_, hat⟩, h.base⟩
  obtain ⟨es, clock, hb, _⟩ := hm
  have ho' : w.ownsRow C 9 1 v l.length (strs l) := ho
  rcases ho'.2 with ⟨rfl, _⟩ | ⟨g, cap, cur, rfl, _, hh, _⟩
  · simp [Value.ownBlock]
  · intro e
    have : g = mb := by simpa [Value.ownBlock] using e.symm
    subst this
    rw [hh] at hb; cases hb
set_option maxRecDepth 100000 in
set_option maxHeartbeats 2000000 in
theorem lruKeys_any (B tb mb N : Nat) (room : Int) (xs : List Cn) (w : World) (hp : LruX w B tb room mb N xs) (hl : xs.length ≤ 1000000) :
    Calls Try.prog 38 #[.pointer (some ⟨tb, 0, none⟩)] w fun e w' => ∃ A n c, e = .returned (.slice A n c) ∧ OwnS w' w.heap.size (.slice A n c) (xs.map (·.o)) ∧ LruX w' B tb room mb N xs ∧ Below w.heap.size w w' := by
  obtain ⟨G, rfl, hpw⟩ := hp
  have hlG : G.length ≤ 1000000 := by simpa using hl
  have HE : Hid ((G.map (·.2)).map (·.o) = (G.take G.length).map fun x => x.2.o) := Lib.hid (by rw [List.take_length, List.map_map]; rfl)
  have hh := hpw.ring.head
  have c7 : w.cell? ⟨tb, 8, none⟩ = some (.pointer (some (adr ⟨tb, 3, none⟩ (nds G) 1))) := by
    rw [cell_of_row _ _ _ _ _ _ hh]; rfl
  generalize hus : sumW (G.map (·.2)) = us at *
  have HUS := Lib.hid hus
  clear hus
  clear hl hh
  go_enter Try.func38, Try.ntmps38
  go_wp2
  go_loopg [3, 4] G.length (fun r out cur wr => ∃ (j : Nat) (A : Option Addr) (n c : Nat), j ≤ G.length ∧ r + j = G.length ∧ out = .slice A n c ∧ cur = .pointer (some (adr ⟨tb, 3, none⟩ (nds G) (j + 1))) ∧ OwnS wr w.heap.size (.slice A n c) ((G.take j).map fun x => x.2.o) ∧ LruW wr B tb room us mb N G ∧ Below w.heap.size w wr)
  case atStart => exact ⟨0, none, 0, 0, by omega, by omega, rfl, rfl, OwnS.nil _ _, hpw, Below.refl _ _⟩
  case round =>
    clear hpw c7
    obtain ⟨j, A, n, c, hj, hr, rfl, rfl, hown, hpw, hbr⟩ := hrel
    by_cases hlt : j < G.length
    · have hx := List.getElem?_eq_getElem hlt
      have hne : G[j].1 ≠ tb := hpw.ring.nin _ (mem_get (nds_get hx))
      have hq := neq_node_other wr (a := ⟨G[j].1, 0, none⟩) (b := ⟨tb, 3, none⟩) (fun h => hne (by injection h)) (hpw.ring.blk j _ (nds_get hx)) hpw.ring.head
      rw [adr_node (nds_get hx)]
      obtain ⟨n0, n1b, n1, n2, n3, n4⟩ := ring_node hpw.ring hx
      have hS := take_snoc? hx
      generalize G[j] = x at *
      obtain ⟨g, x⟩ := x
      have HS := Lib.hid hS
      have HX := Lib.hid hx
      have HP := Lib.hid hpw
      have HB := Lib.hid hbr
      dsimp only at *
      clear hS hx hpw n1b n1 n2 n3 hbr
      go_wp2_with
        (at_builtin
         refine wp_appS rfl (.tmp 19) (.tmp 24) rfl w.heap.size (.slice A n c) ((G.take j).map fun x => x.2.o) rfl (hown.step (alloc_below _ _)) (some ⟨wr.heap.size, 0, none⟩) 1 1 [x.o] rfl ?hr ?hby ?hbase ?_
         case hr => exact one_rdS _ _ _
         case hby => simp; omega
         case hbase => have := HB.out.size; simp; omega
         intro A5 n5 c5 w5 hown5 hb5 hg5 hn5
         have hP5 : LruW w5 B tb room us mb N G := (HP.out.step (alloc_below wr (.cells #[.string (bs x.o)] 9))).app (hown.step (alloc_below wr (.cells #[.string (bs x.o)] 9))) hg5
         have HP5 := Lib.hid hP5
         have m4 := (ring_node hP5.ring HX.out).2.2.2.2.2
         dsimp only at m4
         clear hP5)
      have hG6 : OwnS w5 w.heap.size (.slice A5 n5 c5) ((G.take (j + 1)).map fun x => x.2.o) := by rw [HS.out, List.map_append]; exact hown5
      have hbx : Below w.heap.size wr w5 := ((alloc_below wr (.cells #[.string (bs x.o)] 9)).mono HB.out.size).trans hb5
      clear hown hown5 hb5 hg5
      go_roundg (G.length - (j + 1))
      case measure => omega
      case rel => exact ⟨j + 1, A5, n5, c5, by omega, by omega, rfl, rfl, hG6, HP5.out, HB.out.trans hbx⟩
    · obtain rfl : j = G.length := by omega
      rw [adr_end (by rw [nds_len]; omega)]
      have hq := neq_node_same wr ⟨tb, 3, none⟩
      go_wp2
      go_ret
      exact ⟨A, n, c, rfl, by rw [HE.out]; exact hown, ⟨G, rfl, by rw [HUS.out]; exact hpw⟩, hbr⟩
set_option maxRecDepth 100000 in
set_option maxHeartbeats 4000000 in
theorem lruPut_any (B tb mb N : Nat) (room : Int) (xs : List Cn) (s : List UInt8) (v size : Int) (wz : World) (h : LruX wz B tb room mb N xs) (hi : ItemsOK room xs) (hroom : 0 ≤ room) (hs : s.length ≤ maxLen) (hl : xs.length ≤ 1000000) (hN : N ≤ 1000000) :
    Calls Try.prog 32 #[.pointer (some ⟨tb, 0, none⟩), .string (bs s), .agg #[.string (bs s), .int .i64 v], .int .i64 size] wz fun e w' => ∃ A n c, e = .returned (.tuple #[.slice A n c, .bool (lputL room s v size xs).2.2]) ∧ OwnS w' wz.heap.size (.slice A n c) (lputL room s v size xs).2.1 ∧ LruX w' B tb room mb (N + 1) (lputL room s v size xs).1 ∧ TurnM mb B 102 104 wz w' := by
  obtain ⟨w, hwz⟩ : ∃ w, Hid (wz.alloc (.cells #[.string (bs s), .int .i64 v] 53) = w) := ⟨_, Lib.hid rfl⟩
  have hal0 : Below wz.heap.size wz w := by rw [← hwz.out]; exact alloc_below wz _
  have hpr0 : w.heap[wz.heap.size]? = some (.cells #[.string (bs s), .int .i64 v] 53 (0, 0)) := by rw [← hwz.out]; exact heap_alloc_new wz _
  have hbz : wz.heap.size < w.heap.size := by rw [← hwz.out]; simp
  have hBz := h.lt
  replace h := h.step hal0
  have hBw := h.lt
  by_cases hbad : size < 0 ∨ room < size
  · have hR : lputL room s v size xs = (xs, [], false) := by unfold lputL; rw [if_pos hbad]
    rw [hR]
    clear hR
    have HX : Hid (LruX w B tb room mb (N + 1) xs) := Lib.hid (by
      obtain ⟨G, h1, h2⟩ := h
      obtain ⟨D, hm, hat⟩ := h2.map
      exact ⟨G, h1, h2.ring, ⟨D, hm.mono (by omega), hat⟩, h2.base⟩)
    obtain ⟨G, hG, hw⟩ := h
    have c0 := hw.cells.1
    clear hw hG
    have hcs : size < 0 ∨ (0 ≤ size ∧ room < size) := by omega
    clear hbad hi hl hN
    rcases hcs with h1 | ⟨h1, h2⟩
    all_goals
      go_enter Try.func32, Try.ntmps32
      go_upto_region 1 with fail
      rw [hwz.out]
      go_wp2
      go_ret2
      exact ⟨none, 0, 0, rfl, OwnS.nil _ _, HX.out, TurnM.of_below hal0 hBz⟩
  · have hR : lputL room s v size xs = (⟨s, v, size⟩ :: (evL (room - size) (woL s xs)).1, (evL (room - size) (woL s xs)).2, true) := by unfold lputL; rw [if_neg hbad]
    rw [hR]
    clear hR
    have hz0 : 0 ≤ size := by omega
    have hz1 : size ≤ room := by omega
    have hrm := hi.room
    clear hbad
    have c0 : w.cell? ⟨tb, 0, none⟩ = some (.int .i64 room) := by
      obtain ⟨G, hG, hw⟩ := h
      exact hw.cells.1
    have hD := lruDrop_any B tb mb N room xs s w h hi hs
    have hiw := hi.wo s
    have hlw : (woL s xs).length ≤ 1000000 := Nat.le_trans (List.length_filter_le _ _) hl
    have HNS : Hid (∀ x ∈ woL s xs, x.o ≠ s) := Lib.hid fun x hx => (woL_not hx).2
    have HSL := Lib.hid hs
    generalize woL s xs = ys at *
    clear h hi hs hl
    go_enter Try.func32, Try.ntmps32
    go_upto_region 1 with fail
    rw [hwz.out]
    go_wp2_with fail
    refine hD.mono ?_
    rintro e w1 ⟨rfl, hx1, ht1⟩
    clear hD c0
    obtain ⟨G1, hG1, hw1⟩ := hx1
    have hsz1 := ht1.turn.below.size
    go_wp2
    go_loopg [10] G1.length (fun r gone wr => ∃ (rest : List (Nat × Cn)) (dn : List (List UInt8)) (A : Option Addr) (n c : Nat), gone = .slice A n c ∧
      Hid (evR (room - size) ys.reverse = ((evR (room - size) (rest.map (·.2)).reverse).1, dn ++ (evR (room - size) (rest.map (·.2)).reverse).2) ∧ rest.map (·.2) <+: ys ∧ ItemsOK room (rest.map (·.2)) ∧ rest.length = r ∧ dn.length + rest.length ≤ 1000000) ∧
      OwnS wr w.heap.size (.slice A n c) dn ∧ LruW wr B tb room (sumW (rest.map (·.2))) mb N rest ∧ TurnM mb B 102 104 w wr ∧ w.heap.size ≤ wr.heap.size ∧ wr.heap[wz.heap.size]? = some (.cells #[.string (bs s), .int .i64 v] 53 (0, 0)))
    case atStart =>
      refine ⟨G1, [], none, 0, 0, rfl, Lib.hid ⟨?_, ?_, ?_, rfl, by have := congrArg List.length hG1; simp at this ⊢; omega⟩, OwnS.nil _ _, ?_, ht1, hsz1, row_turn ht1.turn hpr0 (by decide) (by decide)⟩
      · rw [hG1]; simp
      · rw [hG1]; exact List.prefix_refl _
      · rw [hG1]; exact hiw
      · rw [hG1]; exact hw1
    case round =>
      clear hw1 ht1 hsz1 hpr0
      obtain ⟨rest, dn, A, n, c, rfl, HF, hown, hwr, hT, hsz, hpr⟩ := hrel
      obtain ⟨c0, c1, -, f1⟩ := hwr.cells
      obtain ⟨e1, e2, hir, e4, e5⟩ := HF.out
      have hs0 := sumW_nonneg (xs := rest.map (·.2)) fun y hy => (hir.each y hy).2
      have hs1 := hir.sum
      have hh := hwr.ring.head
      have c6 : wr.cell? ⟨tb, 7, none⟩ = some (.pointer (some (adr ⟨tb, 3, none⟩ (nds rest) rest.length))) := by
        rw [cell_of_row _ _ _ _ _ _ hh]
        unfold hdC
        rw [nds_len]
        rfl
      clear hh
      by_cases hc : room - size < sumW (rest.map (·.2))
      · have hpos : 0 < rest.length := by
          rcases Nat.eq_zero_or_pos rest.length with h0 | h0
          · rw [List.eq_nil_of_length_eq_zero h0] at hc
            simp [sumW] at hc
            omega
          · exact h0
        obtain ⟨r', x, rfl⟩ := snoc_of hpos
        have hx : (r' ++ [x])[r'.length]? = some x := by simp
        have hlen : (r' ++ [x]).length = r'.length + 1 := by simp
        rw [hlen, adr_node (nds_get hx)] at c6
        have hnd := (ring_node hwr.ring hx).1
        have hit := hir.each x.2 (by simp)
        have hsm := sumW_mem (xs := (r' ++ [x]).map (·.2)) (fun y hy => (hir.each y hy).2) (mapGet hx)
        have hse := sumW_erase (mapGet hx)
        have hme : ((r' ++ [x]).map (·.2)).eraseIdx r'.length = r'.map (·.2) := by rw [← mapErase, erase_last]
        rw [hme] at hse
        have hRm := fun W (hW : LruW W B tb room (sumW ((r' ++ [x]).map (·.2))) mb N (r' ++ [x])) => lruRemove_any B tb mb N room _ (r' ++ [x]) r'.length x W hW hx hir.keys hit.1 hs0 (by omega) hit.2 (by omega)
        have HREL : Hid (evR (room - size) ys.reverse = ((evR (room - size) (r'.map (·.2)).reverse).1, (dn ++ [x.2.o]) ++ (evR (room - size) (r'.map (·.2)).reverse).2) ∧ r'.map (·.2) <+: ys ∧ ItemsOK room (r'.map (·.2)) ∧ r'.length = r'.length ∧ (dn ++ [x.2.o]).length + r'.length ≤ 1000000) := Lib.hid (by
          refine ⟨?_, ?_, ?_, rfl, ?_⟩
          · rw [e1]
            have hrev : ((r' ++ [x]).map (·.2)).reverse = x.2 :: (r'.map (·.2)).reverse := by simp
            rw [hrev]
            have hc' : room - size < sumW (x.2 :: (r'.map (·.2)).reverse) := by rw [← hrev, sumW_rev]; exact hc
            conv => lhs; unfold evR; rw [if_pos hc']
            simp
          · refine List.IsPrefix.trans ?_ e2
            rw [List.map_append]; exact List.prefix_append _ _
          · have hk := hir.keys.erase r'.length
            rw [hme] at hk
            exact ⟨hk, fun y hy => hir.each y (by rw [List.map_append]; exact List.mem_append_left _ hy), by omega, hir.room⟩
          · rw [hlen] at e4
            simp
            omega)
        have HSE := Lib.hid hse
        have HWR := Lib.hid hwr
        have HT := Lib.hid hT
        have HE4 := Lib.hid e4
        have hdn : dn.length ≤ 1000000 := by omega
        have hdc : decide (room - size < sumW ((r' ++ [x]).map (·.2))) = true := by simpa using hc
        generalize hus : sumW ((r' ++ [x]).map (·.2)) = us at *
        clear hus hse hme hx hwr hT e1 e2 e4 e5 hir hsm hit hpos HF
        obtain ⟨g, x⟩ := x
        dsimp only at *
        have hwp1 : IntKind.i64.wrap (room - size) = room - size := IntWalk.i64_in _ (by omega)
        go_wp2
        go_quiet (fail)
        go_wp2_with
          (at_builtin
           refine wp_appS rfl (.tmp 42) (.tmp 47) rfl w.heap.size (.slice A n c) dn rfl (OwnS.step hown ((below_drewN (Below.refl _ _) nq).trans (alloc_below (wr.drewN nq) _))) (some ⟨wr.heap.size, 0, none⟩) 1 1 [x.o] rfl ?hr ?hby ?hbase ?_
           case hr => exact one_rdS _ _ _
           case hby => first | omega | (simp; omega)
           case hbase => first | omega | (simp; omega)
           intro A5 n5 c5 w5 hown5 hb5 hg5 hn5
           have hP5 : LruW w5 B tb room us mb N (r' ++ [(g, x)]) := ((HWR.out.drewN nq).step (alloc_below (wr.drewN nq) (.cells #[.string (bs x.o)] 9))).app (OwnS.step hown ((below_drewN (Below.refl _ _) nq).trans (alloc_below (wr.drewN nq) _))) hg5
           have HP5 := Lib.hid hP5
           clear hP5)
        go_wp2_with fail
        refine (hRm _ HP5.out).mono ?_
        rintro e w6 ⟨rfl, hw6, ht6⟩
        have hbx : Below w.heap.size wr w5 := (((below_drewN (Below.refl _ _) nq).trans (alloc_below (wr.drewN nq) (.cells #[.string (bs x.o)] 9))).mono hsz).trans hb5
        have hT6 : TurnM mb B 102 104 w w6 := (turn_appM HT.out hbx (Nat.le_refl _) hBw).trans ht6
        have hO6 : OwnS w6 w.heap.size (.slice A5 n5 c5) (dn ++ [x.o]) := own_turn ht6.turn hown5 (by decide) (by decide)
        rw [erase_last, ← HSE.out] at hw6
        have hsz6 := hT6.turn.below.size
        obtain ⟨q1, q2, q3, -, q5⟩ := HREL.out
        have hme : r'.length < gk := by have := HE4.out; omega
        have hpr6 := row_turn ht6.turn ((hbx.block wz.heap.size hbz).trans hpr) (by decide) (by decide)
        clear HREL HT HWR HP5 hown hown5 hb5 hg5 hbx ht6 hRm
        go_wp2
        go_roundg r'.length
        case measure => exact hme
        case rel => exact ⟨r', dn ++ [x.o], A5, n5, c5, rfl, Lib.hid ⟨q1, q2, q3, rfl, q5⟩, hO6, hw6, hT6, hsz6, hpr6⟩
      · have hdc : decide (room - size < sumW (rest.map (·.2))) = false := by simpa using hc
        have HEV : Hid (evL (room - size) ys = (rest.map (·.2), dn)) := Lib.hid (by
          unfold evL
          rw [e1, evR_stop (by rw [sumW_rev]; exact hc)]
          simp)
        have HKS : Hid (∀ p ∈ rest, p.2.o ≠ s) := Lib.hid fun p hp => HNS.out p.2 (e2.subset (List.mem_map.2 ⟨p, hp, rfl⟩))
        have hss : sumW (⟨s, v, size⟩ :: rest.map (·.2)) = sumW (rest.map (·.2)) + size := by rw [sumW_cons]; simp; omega
        have HSS := Lib.hid hss
        have HWR := Lib.hid hwr
        have HT := Lib.hid hT
        have c2 : wr.cell? ⟨tb, 2, none⟩ = some (.map (some mb)) := hwr.cells.2.2.1
        generalize hus : sumW (rest.map (·.2)) = us at *
        have hBr : B ≤ wr.heap.size := by omega
        clear hus hss hwr hT e1 e2 e4 e5 hir HF c6 HNS
        obtain ⟨pr0, pr1, -, -⟩ := row_facts2 hpr
        clear hpr
        have hwp1 : IntKind.i64.wrap (room - size) = room - size := IntWalk.i64_in _ (by omega)
        go_wp2
        go_quiet (fail)
        have hW5 : LruW ((wr.drewN nq).alloc (.cells #[.string (bs s), .string (bs s), .int .i64 v, .int .i64 size, .pointer none, .pointer none] 102)) B tb room us mb N rest := (HWR.out.drewN nq).step (alloc_below (wr.drewN nq) _)
        have c5 := hW5.cells.2.2.1
        have HW5 := Lib.hid hW5
        obtain ⟨D, hm, hat⟩ := hW5.map
        have HAT := Lib.hid hat
        clear hW5 hat
        go_wp2_with
          (at_mapUpdate
           refine wpList_mapUpdate_in _ rfl _ _ _ 99 rfl 9 100 law Try.underlying99 ptrR mb N D rfl hm ?hN _ _ (.string s) rfl rfl (keyIs HSL.out) (.lit (.int .i64 (wr.heap.size : Int))) [] (ptrR_some wr.heap.size) ?_
           case hN => exact Nat.lt_of_le_of_lt hN (by decide)
           intro w7 hown7 hturn7)
        have hIM := hm.isMap
        have hRt := HWR.out.ring
        have hlt := hRt.lt
        obtain ⟨hb1, hb2, hb3⟩ := HWR.out.base
        have hfr : ∀ p ∈ rest, p.1 ≠ wr.heap.size := by
          intro p hp e
          obtain ⟨i, hi, rfl⟩ := List.getElem_of_mem hp
          have h1 := hRt.blk i _ (nds_get (List.getElem?_eq_getElem hi))
          have h2 := (Array.getElem?_eq_some_iff.1 h1).1
          dsimp only at h2
          omega
        have hrow7 : w7.heap[wr.heap.size]? = some (.cells #[.string (bs s), .string (bs s), .int .i64 v, .int .i64 size, .pointer none, .pointer none] 102 (0, 0)) := by
          have h0 : ((wr.drewN nq).alloc (.cells #[.string (bs s), .string (bs s), .int .i64 v, .int .i64 size, .pointer none, .pointer none] 102)).heap[wr.heap.size]? = some (.cells #[.string (bs s), .string (bs s), .int .i64 v, .int .i64 size, .pointer none, .pointer none] 102 (0, 0)) := by
            simp [World.alloc, World.drewN]
          rw [mapTurned_row hturn7 h0]; exact h0
        have hF7 := front_any B tb (lruPre room us mb) rest wr.heap.size ⟨s, v, size⟩ _ _ w7 (mapTurned_ring hturn7 HW5.out.ring) rfl hb1 hb3 hBr hfr (by omega) hrow7
        have hT7 : TurnM mb B 102 104 w w7 := (turn_appM HT.out ((below_drewN (Below.refl _ _) nq).trans (alloc_below (wr.drewN nq) _)) hsz hBr).trans (mapTurned_turnM hturn7 hb2 (Nat.le_trans hBr (by simp [World.alloc, World.drewN])))
        have hO7 : OwnS w7 w.heap.size (.slice A n c) dn := own_turn (mapTurned_turn (T1 := 102) (T2 := 104) hturn7 hb2 (Nat.le_trans hBr (by simp [World.alloc, World.drewN]))) (OwnS.step hown ((below_drewN (Below.refl _ _) nq).trans (alloc_below (wr.drewN nq) _))) (by decide) (by decide)
        have HB := Lib.hid (And.intro hb1 (And.intro hb2 hb3))
        have HT7 := Lib.hid hT7
        have HO7 := Lib.hid hO7
        clear hturn7 hm hRt hfr hrow7 hT7 hO7 hown hb1 hb3 HW5 c0 c1 c2 c5 f1 HT HWR
        go_wp2_with fail
        refine hF7.mono ?_
        rintro e w8 ⟨rfl, hR8, hT8⟩
        have hm8 := hT8.map hown7
        have hh8 := hR8.head
        have c1 : w8.cell? ⟨tb, 1, none⟩ = some (.int .i64 us) := by rw [cell_of_row _ _ _ _ _ _ hh8]; rfl
        have f1 : w8.frozen? ⟨tb, 1, none⟩ = false := by simp only [World.frozen?, hh8]; rfl
        have hne : mb ≠ tb := by
          rintro rfl
          obtain ⟨es, clock, hb, _⟩ := hm8
          rw [hh8] at hb; cases hb
        have HF : Hid (LruW (w8.setCell ⟨tb, 1, none⟩ (.int .i64 (us + size))) B tb room (us + size) mb (N + 1) ((wr.heap.size, ⟨s, v, size⟩) :: rest)) := Lib.hid
          ⟨hR8.setPre 1 (by simp [lruPre]) (.int .i64 (us + size)), ⟨_, hm8.setCell (a := ⟨tb, 1, none⟩) hne _, MapOK.put (G := rest) HAT.out hIM (fun s' => look_cons _ _ _)⟩, HB.out.1, HB.out.2.1, fun p hp => by
            rcases List.mem_cons.1 hp with rfl | h
            · exact hBr
            · exact HB.out.2.2 p h⟩
        have HTF : Hid (TurnM mb B 102 104 w (w8.setCell ⟨tb, 1, none⟩ (.int .i64 (us + size)))) := Lib.hid ((HT7.out.trans (hT8.turnM mb)).set _ HB.out.1 ⟨_, _, hh8, .inr rfl⟩ _)
        have HOF : Hid (OwnS (w8.setCell ⟨tb, 1, none⟩ (.int .i64 (us + size))) w.heap.size (.slice A n c) dn) := Lib.hid (own_turn (hT8.turn.set _ HB.out.1 ⟨_, _, hh8, .inr rfl⟩ _) HO7.out (by decide) (by decide))
        have hwp2 : IntKind.i64.wrap (us + size) = us + size := IntWalk.i64_in _ (by omega)
        clear hF7 hR8 hT8 hm8 hh8 hne hown7
        go_wp2
        go_ret2
        exact ⟨A, n, c, rfl, by rw [HEV.out]; exact OwnS.mono HOF.out hal0.size, ⟨(wr.heap.size, ⟨s, v, size⟩) :: rest, by rw [HEV.out]; rfl, by rw [HEV.out, HSS.out]; exact HF.out⟩, (TurnM.of_below hal0 hBz).trans HTF.out⟩
theorem LruX.setOther {w : World} {B tb mb N : Nat} {room : Int} {xs : List Cn} (h : LruX w B tb room mb N xs) {b : Nat} {cs : Array Value} {t : TypeId} (hr : w.heap[b]? = some (.cells cs t (0, 0))) (h1 : t ≠ 102) (h2 : t ≠ 104) (o : Nat) (v : Value) : LruX (w.setCell ⟨b, o, none⟩ v) B tb room mb N xs := by
  obtain ⟨G, e, hw⟩ := h
  obtain ⟨D, hm, hat⟩ := hw.map
  have hk : ∀ i : Nat, i ≠ b → (w.setCell ⟨b, o, none⟩ v).heap[i]? = w.heap[i]? := fun i hi => Below.heap_setCell w ⟨b, o, none⟩ v i hi
  have hne : ∀ (i : Nat) (cs' : Array Value) (t' : TypeId), w.heap[i]? = some (.cells cs' t' (0, 0)) → t' ≠ t → i ≠ b := by
    rintro i cs' t' h3 h4 rfl
    rw [hr] at h3
    injection h3 with h3; injection h3 with _ h3
    exact h4 h3.symm
  refine ⟨G, e, hw.ring.keep (hk _ (hne _ _ _ hw.ring.head h2.symm)) fun x hx => ?_, ⟨D, hm.kept (row := some b) ⟨rfl, rfl, rfl, by simp [World.setCell], fun i _ hne => hk i (fun he => hne (by rw [he]))⟩ ?_, hat⟩, hw.base⟩
  · obtain ⟨i, hi, rfl⟩ := List.getElem_of_mem hx
    exact hk _ (hne _ _ _ (hw.ring.blk i _ (List.getElem?_eq_getElem hi)) h1.symm)
  · obtain ⟨es, clock, hb, _⟩ := hm
    intro he
    injection he with he
    subst he
    rw [hr] at hb; cases hb
end LA
end Go.Proofs.Ytepedjnmliclkaa
