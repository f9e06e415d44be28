/- Joined texts: A list while define writes: a value more in an element's row; the map's entry. The conditions stand in each line. -/
import Derived.Test.YtgkphjbcaidcpaaGreatDoorM18
set_option linter.unusedVariables false
set_option linter.unusedSimpArgs false
namespace Go.Proofs.YtgkphjbcaidcpaaGreatDoor
open Go.RowKit

set_option maxRecDepth 100000
section
variable {w : World} {B g mb N : Nat} {bx : Nat → Nat} {A : Nat → Option Addr} {n c : Nat → Nat} {R : Option Addr} {rn rc : Nat} {mels els : List Ac.El} {rus : List Ac.Ru}
theorem get_set_cases {α : Type} {l : List α} {i k : Nat} {x y : α} (h : (l.set i x)[k]? = some y) : (k = i ∧ i < l.length ∧ y = x) ∨ (k ≠ i ∧ l[k]? = some y) := by
  rw [List.getElem?_set] at h
  split at h
  · rename_i e; subst e
    split at h
    · rename_i hl; injection h with h; exact .inl ⟨rfl, hl, h.symm⟩
    · cases h
  · rename_i e; exact .inr ⟨fun h2 => e h2.symm, h⟩
/-- A value more in an element's row: behind the append, and behind the store. -/
theorem PE.val (h : PE w B bx A n c els) {i : Nat} {e : Ac.El} (he : els[i]? = some e) {v : List UInt8} (hv : ValOK e.kd v) {A' : Option Addr} {c' : Nat} {w2 : World}
    (ho : w2.ownsRow B 88 1 (.slice A' (n i + 1) c') (n i + 1) (e.vs.map (repV e.kd) ++ [repV e.kd v])) (hg : w.grownBy w2 (aRow A n c i).ownBlock)
    (hs : (Value.slice A' (n i + 1) c').ownBlock = (aRow A n c i).ownBlock ∨ (Value.slice A' (n i + 1) c').ownBlock = some w.heap.size) :
    PE (w2.setCell ⟨bx i, 1, none⟩ (.slice A' (n i + 1) c')) B bx (up A i A') (up n i (n i + 1)) (up c i c') (els.set i ⟨e.nm, e.kd, e.vs ++ [v]⟩) := by
  have hi : i < els.length := (List.getElem?_eq_some_iff.1 he).1
  have ha : ∀ k, k ≠ i → aRow (up A i A') (up n i (n i + 1)) (up c i c') k = aRow A n c k := fun k hk => by unfold aRow; rw [up_ne A A' hk, up_ne n _ hk, up_ne c c' hk]
  have hl : aRow (up A i A') (up n i (n i + 1)) (up c i c') i = .slice A' (n i + 1) c' := by unfold aRow; rw [up_same, up_same, up_same]
  have hb := h.box i e he
  have hb2 : w2.heap[bx i]? = some (.cells #[.string (bs e.kd), aRow A n c i] 86 (0, 0)) := block_safe hg (safe_own (h.row i e he).2 (T := fun t => t = 88) rfl) hb.2 (by decide)
  have hgs := grown_set w2 (bx i) 1 (.slice A' (n i + 1) c')
  have hss : Safe w2 (some (bx i)) fun t => t = 86 := safe_row hb2 rfl
  have hlen : (els.set i ⟨e.nm, e.kd, e.vs ++ [v]⟩).length = els.length := List.length_set
  refine ⟨fun k e' hk => ?_, fun k e' hk => ?_, fun k e' hk => ?_, fun a b h1 h2 h3 => h.injB a b (by omega) (by omega) h3, fun a b h1 h2 h3 => ?_⟩
  · rcases get_set_cases hk with ⟨rfl, _, rfl⟩ | ⟨hne, hk'⟩
    · rw [hl]
      refine ⟨hb.1, ?_⟩
      rw [heap_setCell_same w2 (bx k) 1 _ _ _ hb2]
      rfl
    · rw [ha k hne]
      have hk2 := h.box k e' hk'
      refine ⟨hk2.1, ?_⟩
      have h4 : w2.heap[bx k]? = some (.cells #[.string (bs e'.kd), aRow A n c k] 86 (0, 0)) := block_safe hg (safe_own (h.row i e he).2 (T := fun t => t = 88) rfl) hk2.2 (by decide)
      exact (hgs.block (bx k) (Array.getElem?_eq_some_iff.1 h4).1 (fun e9 => h.injB k i (List.getElem?_eq_some_iff.1 hk').1 hi hne (by injection e9))).trans h4
  · rcases get_set_cases hk with ⟨rfl, _, rfl⟩ | ⟨hne, hk'⟩
    · rw [hl, up_same]
      refine ⟨by rw [List.length_append, (h.row k e he).1]; rfl, ?_⟩
      rw [List.map_append]
      exact own_safe hgs hss ho (by decide)
    · rw [ha k hne, up_ne n _ hne]
      have hk2 := h.row k e' hk'
      refine ⟨hk2.1, own_safe hgs hss (hk2.2.kept hg ?_) (by decide)⟩
      exact h.injR k i (List.getElem?_eq_some_iff.1 hk').1 hi hne
  · rcases get_set_cases hk with ⟨rfl, _, rfl⟩ | ⟨hne, hk'⟩
    · intro u hu
      rcases List.mem_append.1 hu with h5 | h5
      · exact h.ok k e he u h5
      · rw [List.mem_singleton.1 h5]; exact hv
    · exact h.ok k e' hk'
  · have hlt : ∀ (k : Nat), k < els.length → ∀ j, (aRow A n c k).ownBlock = some j → j < w.heap.size := fun k hk j hj => ((h.row k els[k] (List.getElem?_eq_getElem hk)).2.lt j hj).2
    rw [hlen] at h1 h2
    by_cases e1 : a = i
    · subst e1
      rw [hl, ha b (fun e => h3 e.symm)]
      rcases hs with hs | hs
      · rw [hs]; exact h.injR a b h1 h2 h3
      · rw [hs]
        refine .inr fun e9 => ?_
        have := hlt b h2 _ e9.symm
        omega
    · rw [ha a e1]
      by_cases e2 : b = i
      · subst e2
        rw [hl]
        rcases hs with hs | hs
        · rw [hs]; exact h.injR a b h1 h2 h3
        · rw [hs]
          refine .inr fun e9 => ?_
          have := hlt a h1 _ e9
          omega
      · rw [ha b e2]; exact h.injR a b h1 h2 h3
/-- The list while define writes. -/
structure PD (w : World) (B g mb N : Nat) (bx : Nat → Nat) (A : Nat → Option Addr) (n c : Nat → Nat) (R : Option Addr) (rn rc : Nat) (mels els : List Ac.El) (rus : List Ac.Ru) : Prop where
  base : B ≤ g ∧ B ≤ mb
  list : w.heap[g]? = some (.cells #[.map (some mb), .slice R rn rc] 50 (0, 0))
  map : PM w mb N bx mels
  els : PE w B bx A n c els
  rus : PR w B bx mels R rn rc rus
theorem PW.pd {L : Ac.LS} (h : PW w B g mb N bx A n c R rn rc L) : PD w B g mb N bx A n c R rn rc L.els L.els L.rus := ⟨h.base, h.list, h.map, h.els, h.rus⟩
theorem PD.step {w' : World} (h : PD w B g mb N bx A n c R rn rc mels els rus) (hb : Below w.heap.size w w') : PD w' B g mb N bx A n c R rn rc mels els rus :=
  ⟨h.base, block_safe (T := fun _ => False) (grown_below hb) (Safe.none _ _) h.list id, h.map.grown (grown_below hb) (by simp), h.els.grown (grown_below hb) (Safe.none _ _), h.rus.grown (grown_below hb) (Safe.none _ _)⟩
theorem PD.new (h : PD w B g mb N bx A n c R rn rc mels mels rus) {gb : Nat} {nm kd : List UInt8} (hb : w.heap[gb]? = some (.cells #[.string (bs kd), .slice none 0 0] 86 (0, 0))) (hB : B ≤ gb) (hne : ∀ k, k < mels.length → bx k ≠ gb) :
    PD w B g mb N (up bx mels.length gb) (up A mels.length none) (up n mels.length 0) (up c mels.length 0) R rn rc mels (mels ++ [⟨nm, kd, []⟩]) rus :=
  ⟨h.base, h.list, h.map.up gb, h.els.new hb hB hne, h.rus.imp (fun _ _ h => h) fun k hk => up_ne bx gb (by omega)⟩
theorem ne_map {w : World} {mb k : Nat} {es : Array MapEntry} {cl : Nat} {cs : Array Value} {t : TypeId} {fr : Nat × Nat} (hm : w.heap[mb]? = some (.map es cl)) (h : w.heap[k]? = some (.cells cs t fr)) : mb ≠ k := fun e => by subst e; rw [hm] at h; cases h
theorem PD.val (h : PD w B g mb N bx A n c R rn rc mels els rus) {i : Nat} {e : Ac.El} (he : els[i]? = some e) {v : List UInt8} (hv : ValOK e.kd v) {A' : Option Addr} {c' : Nat} {w2 : World}
    (ho : w2.ownsRow B 88 1 (.slice A' (n i + 1) c') (n i + 1) (e.vs.map (repV e.kd) ++ [repV e.kd v])) (hg : w.grownBy w2 (aRow A n c i).ownBlock)
    (hs : (Value.slice A' (n i + 1) c').ownBlock = (aRow A n c i).ownBlock ∨ (Value.slice A' (n i + 1) c').ownBlock = some w.heap.size) :
    PD (w2.setCell ⟨bx i, 1, none⟩ (.slice A' (n i + 1) c')) B g mb N bx (up A i A') (up n i (n i + 1)) (up c i c') R rn rc mels (els.set i ⟨e.nm, e.kd, e.vs ++ [v]⟩) rus := by
  have hown := (h.els.row i e he).2
  have hs1 : Safe w (aRow A n c i).ownBlock fun t => t = 88 := safe_own hown rfl
  have hb := h.els.box i e he
  have hb2 : w2.heap[bx i]? = some (.cells #[.string (bs e.kd), aRow A n c i] 86 (0, 0)) := block_safe hg hs1 hb.2 (by decide)
  have hgs := grown_set w2 (bx i) 1 (.slice A' (n i + 1) c')
  have hss : Safe w2 (some (bx i)) fun t => t = 86 := safe_row hb2 rfl
  obtain ⟨es, cl, hm⟩ := h.map.isMap
  have hm1 : some mb ≠ (aRow A n c i).ownBlock := fun e9 => by
    rcases hown.2 with ⟨h1, _⟩ | ⟨g', cap, cur, h1, _, hg', _⟩
    · rw [h1] at e9; cases e9
    · rw [h1] at e9
      have : mb = g' := by simpa [Value.ownBlock] using e9
      exact ne_map hm hg' this
  have k1 := h.map.grown hg hm1
  obtain ⟨es2, cl2, hm2⟩ := k1.isMap
  exact ⟨h.base, block_safe hgs hss (block_safe hg hs1 h.list (by decide)) (by decide), k1.grown hgs (fun e9 => ne_map hm2 hb2 (by injection e9)), h.els.val he hv ho hg hs, (h.rus.grown hg (hs1.imp fun t e => by subst e; exact ⟨by decide, by decide⟩)).grown hgs (hss.imp fun t e => by subst e; exact ⟨by decide, by decide⟩)⟩
theorem PD.afr {B' : Nat} {w0 : World} (hf : AFr B' w0 w) (h : PD w B g mb N bx A n c R rn rc mels els rus) (hB : B' ≤ B) (hBw : B' ≤ w.heap.size) {i : Nat} {e : Ac.El} (he : els[i]? = some e) {w2 : World} (hg : w.grownBy w2 (aRow A n c i).ownBlock) (x : Value) :
    AFr B' w0 (w2.setCell ⟨bx i, 1, none⟩ x) := by
  have hown := (h.els.row i e he).2
  have hs1 : Safe w (aRow A n c i).ownBlock fun t => t = 88 := safe_own hown rfl
  have hb := h.els.box i e he
  have hb2 : w2.heap[bx i]? = some (.cells #[.string (bs e.kd), aRow A n c i] 86 (0, 0)) := block_safe hg hs1 hb.2 (by decide)
  refine (hf.grown hg hBw (fun k e9 => Nat.le_trans hB (hown.lt k e9).1) (hs1.imp fun t e => by subst e; rfl)).grown (grown_set w2 (bx i) 1 x) (Nat.le_trans hBw hg.size) (fun k e9 => ?_) ((safe_row hb2 (T := fun t => t = 86) rfl).imp fun t e => by subst e; rfl)
  injection e9 with e9
  subst e9
  exact Nat.le_trans hB hb.1
/-- The map's entry. -/
theorem PD.put (h : PD w B g mb N bx A n c R rn rc mels els rus) {i : Nat} {nm : List UInt8} (hi : Ac.atI els nm = some i) (hs : ∀ s, s ≠ nm → Ac.atI els s = Ac.atI mels s) (hup : ∀ s k, Ac.atI mels s = some k → Ac.atI els s = some k) (hnm : nm.length ≤ maxLen) (hN : N < maxLen) :
    ∃ w', (Instr.mapUpdate 47 (.map (some mb)) (.string (bs nm)) (.pointer (some ⟨bx i, 0, none⟩))).run Tryz.prog w = .ok () w' ∧ PW w' B g mb (N + 1) bx A n c R rn rc ⟨els, rus⟩ ∧ w.grownBy w' (some mb) := by
  obtain ⟨D, hm, hat⟩ := h.map
  obtain ⟨es, cl, hmm⟩ := h.map.isMap
  obtain ⟨w', hr, hm', hg⟩ := hm.update law Tryz.underlying47 hN (keyIs hnm) (ptrR_some (bx i))
  have hat' := put_at hm.isMap (key := nm) (d := .lit (.int .i64 ((bx i : Nat) : Int))) (f := fun s => elD ((Ac.atI mels s).map bx)) hat
  have hsf : ∀ T, Safe w (some mb) T := fun T k e => by cases e; exact .inr (.inr ⟨es, cl, hmm⟩)
  refine ⟨w', hr, ⟨h.base, block_safe (T := fun _ => False) hg (hsf _) h.list id, ⟨_, hm', fun s hsl => (hat' s hsl).trans ?_⟩, h.els.grown hg (hsf _), (h.rus.grown hg (hsf _)).imp hup fun _ _ => rfl⟩, hg⟩
  show (if s = nm then _ else elD ((Ac.atI mels s).map bx)) = elD ((Ac.atI els s).map bx)
  by_cases e : s = nm
  · rw [if_pos e, e, hi]; rfl
  · rw [if_neg e, hs s e]
end
end Go.Proofs.YtgkphjbcaidcpaaGreatDoor
