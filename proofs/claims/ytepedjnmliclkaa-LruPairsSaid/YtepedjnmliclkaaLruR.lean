/- The bounded table: remove. Conditions: keys that differ, texts that are texts, sizes within 2^31. -/
import Derived.Test.YtepedjnmliclkaaLruW
import Derived.StillTailTactics
import Derived.IntWalk
set_option linter.unusedVariables false
set_option linter.unusedSimpArgs false
namespace Go.Proofs.Ytepedjnmliclkaa
open Go.RowKit

def KeysOK (xs : List Cn) : Prop := (xs.map (·.o)).Nodup
def MapOK (D : DataW Unit) (G : List (Nat × Cn)) : Prop := ∀ s : List UInt8, s.length ≤ maxLen → D.atKey (.string s) .nil = elD (lookL G s)
theorem look_cons (p : Nat × Cn) (G : List (Nat × Cn)) (s : List UInt8) : lookL (p :: G) s = if p.2.o = s then some p.1 else lookL G s := by
  unfold lookL
  simp only [List.find?_cons]
  by_cases h : p.2.o = s
  · simp [h]
  · have : (p.2.o == s) = false := by simp [h]
    rw [this, if_neg h]
theorem look_none {G : List (Nat × Cn)} {s : List UInt8} (h : ∀ p ∈ G, p.2.o ≠ s) : lookL G s = none := by
  unfold lookL
  rw [List.find?_eq_none.2 (fun p hp => by simp [h p hp])]
  rfl
theorem look_erase : ∀ {G : List (Nat × Cn)} {k : Nat} {x : Nat × Cn}, KeysOK (G.map (·.2)) → G[k]? = some x → ∀ s, lookL (G.eraseIdx k) s = if x.2.o = s then none else lookL G s
  | [], k, x, _, h, s => by simp at h
  | y :: r, 0, x, hn, h, s => by
    simp at h
    subst h
    unfold KeysOK at hn
    simp only [List.map_cons, List.nodup_cons] at hn
    simp only [List.eraseIdx_cons_zero]
    rw [look_cons]
    by_cases e : y.2.o = s
    · rw [if_pos e]
      apply look_none
      intro p hp e2
      exact hn.1 (List.mem_map.2 ⟨p.2, List.mem_map.2 ⟨p, hp, rfl⟩, by rw [e2, e]⟩)
    · rw [if_neg e, if_neg e]
  | y :: r, k + 1, x, hn, h, s => by
    simp at h
    unfold KeysOK at hn
    simp only [List.map_cons, List.nodup_cons] at hn
    have ih := look_erase (G := r) (k := k) hn.2 h s
    simp only [List.eraseIdx_cons_succ]
    rw [look_cons, look_cons, ih]
    have hne : y.2.o ≠ x.2.o := fun e => hn.1 (List.mem_map.2 ⟨x.2, List.mem_map.2 ⟨x, by obtain ⟨hk, rfl⟩ := List.getElem?_eq_some_iff.1 h; exact List.getElem_mem hk, rfl⟩, e.symm⟩)
    by_cases e : y.2.o = s
    · rw [if_pos e, if_neg (fun e2 => hne (by rw [e, e2])), if_pos e]
    · rw [if_neg e, if_neg e]
theorem look_some : ∀ {G : List (Nat × Cn)} {k : Nat} {x : Nat × Cn}, KeysOK (G.map (·.2)) → G[k]? = some x → lookL G x.2.o = some x.1
  | [], k, x, _, h => by simp at h
  | y :: r, 0, x, hn, h => by
    simp at h
    subst h
    rw [look_cons, if_pos rfl]
  | y :: r, k + 1, x, hn, h => by
    simp at h
    unfold KeysOK at hn
    simp only [List.map_cons, List.nodup_cons] at hn
    have ih := look_some (G := r) (k := k) hn.2 h
    have hne : y.2.o ≠ x.2.o := fun e => hn.1 (List.mem_map.2 ⟨x.2, List.mem_map.2 ⟨x, by obtain ⟨hk, rfl⟩ := List.getElem?_eq_some_iff.1 h; exact List.getElem_mem hk, rfl⟩, e.symm⟩)
    rw [look_cons, if_neg hne, ih]
theorem look_is {G : List (Nat × Cn)} {s : List UInt8} {g : Nat} (h : lookL G s = some g) : ∃ (k : Nat) (x : Nat × Cn), G[k]? = some x ∧ x.1 = g ∧ x.2.o = s := by
  unfold lookL at h
  obtain ⟨p, hp, rfl⟩ := Option.map_eq_some_iff.1 h
  obtain ⟨hp1, k, hk, rfl, _⟩ := List.find?_eq_some_iff_getElem.1 hp
  exact ⟨k, _, List.getElem?_eq_getElem hk, rfl, by simpa using hp1⟩
theorem look_not {G : List (Nat × Cn)} {s : List UInt8} (h : lookL G s = none) : ∀ p ∈ G, p.2.o ≠ s := by
  unfold lookL at h
  rw [Option.map_eq_none_iff, List.find?_eq_none] at h
  intro p hp
  simpa using h p hp
theorem MapOK.del {D : DataW Unit} {G G' : List (Nat × Cn)} (h : MapOK D G) {key : List UInt8} (he : ∀ s, lookL G' s = if key = s then none else lookL G s) : MapOK (D.del (.string key)) G' := by
  intro s hs
  rw [he s]
  by_cases e : key = s
  · subst e
    rw [if_pos rfl, Maps.atKey_del_same]; rfl
  · rw [if_neg e, Maps.atKey_del_other (by simpa using fun h => e h.symm)]
    exact h s hs
theorem MapOK.put {D : DataW Unit} {G G' : List (Nat × Cn)} (h : MapOK D G) (hD : Maps.IsMap D) {key : List UInt8} {g : Nat} (he : ∀ s, lookL G' s = if key = s then some g else lookL G s) : MapOK (D.put (.string key) (.lit (.int .i64 (g : Int)))) G' := by
  intro s hs
  rw [he s]
  by_cases e : key = s
  · subst e
    rw [if_pos rfl, Maps.atKey_put_same hD (by simp [WideAt.IsKeyLit])]; rfl
  · rw [if_neg e, Maps.atKey_put_other (by simpa using fun h => e h.symm)]
    exact h s hs
theorem law : Maps.Keyed Try.prog 9 := Maps.string_keyed Try.underlying9
theorem keyIs {s : List UInt8} (h : s.length ≤ maxLen) : keyOf Try.prog 9 (.string (bs s)) = some (.string s) := WideMaps.keyOf_string_mk Try.underlying9 (s := bs s) (by simpa using h)
/-- A row stays behind a map's turn; so do rings. -/
theorem mapTurned_row {w w' : World} {mb : Nat} (h : w.mapTurned w' mb) {b : Nat} {cs : Array Value} {t : TypeId} {z : Nat × Nat} (hb : w.heap[b]? = some (.cells cs t z)) : w'.heap[b]? = w.heap[b]? := by
  have hg := h.grown
  obtain ⟨es, clock, es', clock', hm, rfl⟩ := h
  refine hg.block b (Array.getElem?_eq_some_iff.1 hb).1 ?_
  intro e
  injection e with e
  subst e
  rw [hm] at hb; cases hb
theorem mapTurned_ring {w w' : World} {mb : Nat} (h : w.mapTurned w' mb) {tb : Nat} {HT : TypeId} {pre : List Value} {np : Nat} {T : TypeId} {L : List Nd} (R : Ring w tb HT pre np T L) : Ring w' tb HT pre np T L :=
  R.keep (mapTurned_row h R.head) fun x hx => by
    obtain ⟨i, hi, rfl⟩ := List.getElem_of_mem hx
    exact mapTurned_row h (R.blk i _ (List.getElem?_eq_getElem hi))
theorem mapTurned_turn {w w' : World} {mb B : Nat} {T1 T2 : TypeId} (h : w.mapTurned w' mb) (hB : B ≤ mb) (hw : B ≤ w.heap.size) : Turn B T1 T2 w w' :=
  ⟨(Below.refl B w).grown h.grown hw fun k hk => by injection hk with hk; omega, fun b cs t z hb _ _ => mapTurned_row h hb⟩
set_option maxRecDepth 100000 in
set_option maxHeartbeats 1000000 in
theorem lruRemove_any (B tb mb N : Nat) (room used : Int) (G : List (Nat × Cn)) (k : Nat) (x : Nat × Cn) (w : World) (h : LruW w B tb room used mb N G) (hx : G[k]? = some x) (hn : KeysOK (G.map (·.2))) (hkl : x.2.o.length ≤ maxLen) (hu1 : 0 ≤ used) (hu2 : used ≤ 4294967296) (hs1 : 0 ≤ x.2.wh) (hs2 : x.2.wh ≤ 4294967296) :
    Calls Try.prog 57 #[.pointer (some ⟨tb, 0, none⟩), .pointer (some ⟨x.1, 0, none⟩)] w fun e w' => e = .returned (.tuple #[]) ∧ LruW w' B tb room (used - x.2.wh) mb N (G.eraseIdx k) ∧ Turn B 95 97 w w' := by
  obtain ⟨D, hm, hat⟩ := h.map
  have hMD : MapOK D G := hat
  obtain ⟨hb1, hb2, hb3⟩ := h.base
  have hU := unlink_any B tb (lruPre room used mb) G k x w h.ring hb1 hb3 hx
  have hnode := h.ring.blk k _ (nds_get hx)
  have HE := Lib.hid (look_erase hn hx)
  have HM := Lib.hid hMD
  have HK := Lib.hid (keyIs hkl)
  have HB := Lib.hid h.base
  have hBw : B ≤ w.heap.size := by have := h.ring.lt; omega
  have hIB : Hid (∀ p ∈ G.eraseIdx k, B ≤ p.1) := Lib.hid fun p hp => hb3 p (List.mem_of_mem_eraseIdx hp)
  clear h hx hn hkl hat hMD hb1 hb3
  obtain ⟨g, x⟩ := x
  dsimp only at *
  go_enter Try.func57, Try.ntmps57
  go_wp2_with fail
  refine hU.mono ?_
  rintro e w1 ⟨rfl, hR1, hsame, hT1⟩
  have hm1 := hT1.map hm
  have hn1 := hsame.trans hnode
  have hh1 := hR1.head
  have c2 : w1.cell? ⟨tb, 2, none⟩ = some (.map (some mb)) := by rw [cell_of_row _ _ _ _ _ _ hh1]; rfl
  have d0 : w1.cell? ⟨g, 0, none⟩ = some (.string (bs x.o)) := by rw [cell_of_row _ _ _ _ _ _ hn1]; rfl
  have HT1 := Lib.hid hT1
  have HR1 := Lib.hid hR1
  have HN1 := Lib.hid hn1
  clear hU hR1 hsame hnode hT1 hm hn1 hh1
  go_wp2
  go_still_tail 8, (by kernel_rfl)
  change wpList _ _ _ _ _ w1.drew
  go_wp2_with (at_delete; refine wpList_delete_own _ rfl _ _ 92 9 rfl 93 law Try.underlying92 ptrR mb N D rfl hm1 _ _ rfl HK.out ?_; intro w2 hown2 hturn2)
  have hR2 : Ring w2 tb 97 (lruPre room used mb) 3 95 (nds (G.eraseIdx k)) := mapTurned_ring (w := w1.drew) hturn2 (HR1.out.keep rfl fun _ _ => rfl)
  have hn2 := (mapTurned_row (w := w1.drew) hturn2 HN1.out).trans HN1.out
  have hh2 := hR2.head
  have c1 : w2.cell? ⟨tb, 1, none⟩ = some (.int .i64 used) := by rw [cell_of_row _ _ _ _ _ _ hh2]; rfl
  have f1 : w2.frozen? ⟨tb, 1, none⟩ = false := by simp only [World.frozen?, hh2]; rfl
  have d2 : w2.cell? ⟨g, 2, none⟩ = some (.int .i64 x.wh) := by rw [cell_of_row _ _ _ _ _ _ hn2]; rfl
  have hne : mb ≠ tb := by
    rintro rfl
    obtain ⟨es, clock, hb, _⟩ := hown2
    rw [hh2] at hb; cases hb
  have hBw1 : B ≤ w1.heap.size := Nat.le_trans hBw HT1.out.turn.below.size
  have HF : Hid (LruW ((w2.setCell ⟨tb, 1, none⟩ (.int .i64 (used - x.wh)))) B tb room (used - x.wh) mb N (G.eraseIdx k)) := Lib.hid
    ⟨hR2.setPre 1 (by simp [lruPre]) (.int .i64 (used - x.wh)), ⟨_, hown2.setCell (a := ⟨tb, 1, none⟩) hne _, HM.out.del HE.out⟩, HB.out.1, HB.out.2.1, hIB.out⟩
  have HT : Hid (Turn B 95 97 w (w2.setCell ⟨tb, 1, none⟩ (.int .i64 (used - x.wh)))) := Lib.hid
    ((HT1.out.turn.trans ((Turn.refl _ _ _ w1).drew.trans (mapTurned_turn hturn2 hb2 hBw1))).set _ HB.out.1 ⟨_, _, hh2, .inr rfl⟩ _)
  have hw : IntKind.i64.wrap (used - x.wh) = used - x.wh := IntWalk.i64_in _ (by omega)
  clear hown2 hturn2 hR2 hn2 hh2 hne hm1 c2 d0
  go_wp2
  go_region
  all_goals
    go_end0
    exact ⟨rfl, HF.out.drew, HT.out.drew⟩
end Go.Proofs.Ytepedjnmliclkaa
