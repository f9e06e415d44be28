/- Joined texts: The list in memory while it is made: elements in boxes with rows of values, a map that leads to them, rules with rows of terms; what each step leaves alone; define's steps in memory: closures of the table, the append of a value, an element's new box, a value more in its row, the map's entry; A list while define writes: a value more in an element's row; the map's entry. The conditions stand in each line. -/
import Derived.Test.YtgkphjbcaidcpaaGreatDoorM11
set_option linter.unusedVariables false
set_option linter.unusedSimpArgs false
namespace Go.Proofs.YtgkphjbcaidcpaaGreatDoor
open Go.RowKit

set_option maxRecDepth 100000
/-- The types of a list's own memory. -/
def aclT (t : TypeId) : Bool := t == 86 || t == 88 || t == 78 || t == 60 || t == 50
/-- The row that a step may turn is new, a map, or of one of these types. -/
def Safe (w : World) (row : Option Nat) (T : TypeId → Prop) : Prop := ∀ k, row = some k → w.heap.size ≤ k ∨ (∃ cs t fr, w.heap[k]? = some (.cells cs t fr) ∧ T t) ∨ ∃ es c, w.heap[k]? = some (.map es c)
theorem Safe.none (w : World) (T : TypeId → Prop) : Safe w none T := fun k h => by cases h
theorem Safe.imp {w : World} {row : Option Nat} {T T' : TypeId → Prop} (h : Safe w row T) (ht : ∀ t, T t → T' t) : Safe w row T' := fun k e => by
  rcases h k e with h | ⟨cs, t, fr, h1, h2⟩ | h
  · exact .inl h
  · exact .inr (.inl ⟨cs, t, fr, h1, ht t h2⟩)
  · exact .inr (.inr h)
theorem safe_row {w : World} {k : Nat} {cs : Array Value} {t : TypeId} {fr : Nat × Nat} {T : TypeId → Prop} (h : w.heap[k]? = some (.cells cs t fr)) (ht : T t) : Safe w (some k) T := fun j e => by cases e; exact .inr (.inl ⟨cs, t, fr, h, ht⟩)
theorem safe_own {w : World} {B m size : Nat} {e : TypeId} {v : Value} {xs : List Value} {T : TypeId → Prop} (h : w.ownsRow B e size v m xs) (ht : T e) : Safe w v.ownBlock T := fun k hk => by
  rcases h.2 with ⟨rfl, _⟩ | ⟨g, cap, cur, rfl, _, hg, _⟩
  · cases hk
  · have : g = k := by simpa [Value.ownBlock] using hk
    subst this
    exact .inr (.inl ⟨cur, e, _, hg, ht⟩)
theorem block_safe {w w' : World} {row : Option Nat} {T : TypeId → Prop} (hg : w.grownBy w' row) (hs : Safe w row T) {k : Nat} {cs : Array Value} {t : TypeId} {fr : Nat × Nat} (h : w.heap[k]? = some (.cells cs t fr)) (ht : ¬ T t) : w'.heap[k]? = some (.cells cs t fr) := by
  refine (hg.block k (Array.getElem?_eq_some_iff.1 h).1 fun e => ?_).trans h
  rcases hs k e.symm with h1 | ⟨cs', t', fr', h1, h2⟩ | ⟨es, c, h1⟩
  · have := (Array.getElem?_eq_some_iff.1 h).1; omega
  · rw [h] at h1; injection h1 with h1; injection h1 with _ h3 _; subst h3; exact ht h2
  · rw [h] at h1; cases h1
theorem own_safe {w w' : World} {row : Option Nat} {T : TypeId → Prop} (hg : w.grownBy w' row) (hs : Safe w row T) {B m size : Nat} {e : TypeId} {v : Value} {xs : List Value} (h : w.ownsRow B e size v m xs) (ht : ¬ T e) : w'.ownsRow B e size v m xs := by
  refine ⟨h.1, ?_⟩
  rcases h.2 with h1 | ⟨g, cap, cur, rfl, hb, hgg, rest⟩
  · exact .inl h1
  · exact .inr ⟨g, cap, cur, rfl, hb, block_safe hg hs hgg ht, rest⟩
theorem grown_set (w : World) (a o : Nat) (v : Value) : w.grownBy (w.setCell ⟨a, o, none⟩ v) (some a) := ⟨rfl, rfl, rfl, by simp [World.setCell], fun i _ hne => Below.heap_setCell _ _ _ _ (fun he => hne (by rw [he]))⟩
theorem grown_below {w w' : World} (hb : Below w.heap.size w w') : w.grownBy w' none := ⟨hb.os, hb.tape, hb.output, hb.size, fun k hk _ => hb.block k hk⟩
/-- What a call leaves that makes a list: all below B, all rows of other types. -/
structure AFr (B : Nat) (w w' : World) : Prop where
  os : w'.os = w.os
  tape : w'.tape = w.tape
  output : w'.output = w.output
  size : w.heap.size ≤ w'.heap.size
  low : ∀ k, k < B → w'.heap[k]? = w.heap[k]?
  rows : ∀ (k : Nat) (cs : Array Value) (t : TypeId) (fr : Nat × Nat), w.heap[k]? = some (.cells cs t fr) → aclT t = false → w'.heap[k]? = some (.cells cs t fr)
section
variable {B : Nat} {w w' w'' : World}
theorem AFr.refl : AFr B w w := ⟨rfl, rfl, rfl, Nat.le_refl _, fun _ _ => rfl, fun _ _ _ _ h _ => h⟩
theorem AFr.trans (h : AFr B w w') (k : AFr B w' w'') : AFr B w w'' := ⟨k.os.trans h.os, k.tape.trans h.tape, k.output.trans h.output, Nat.le_trans h.size k.size, fun i hi => (k.low i hi).trans (h.low i hi), fun i cs t fr h1 h2 => k.rows i cs t fr (h.rows i cs t fr h1 h2) h2⟩
theorem AFr.grown (h : AFr B w w') {row : Option Nat} (hg : w'.grownBy w'' row) (hB : B ≤ w'.heap.size) (hr : ∀ k, row = some k → B ≤ k) (hs : Safe w' row fun t => aclT t = true) : AFr B w w'' :=
  h.trans ⟨hg.os, hg.tape, hg.output, hg.size, fun k hk => hg.block k (by omega) (fun e => by have := hr k e.symm; omega), fun k cs t fr h1 h2 => block_safe hg hs h1 (by rw [h2]; decide)⟩
theorem AFr.next (h : AFr B w w') (hb : Below w'.heap.size w' w'') (hB : B ≤ w'.heap.size) : AFr B w w'' := h.grown (grown_below hb) hB (fun k e => by cases e) (Safe.none _ _)
theorem AFr.below (h : AFr B w w') : Below B w w' := ⟨h.os, h.tape, h.output, h.size, h.low⟩
end
/-- Texts in a row that is no list's own. -/
def RdW (w : World) (A : Option Addr) (n : Nat) (l : List (List UInt8)) : Prop := RdS w A n l ∧ ∀ g o, A = some ⟨g, o, none⟩ → 0 < n → ∃ cs t fr, w.heap[g]? = some (.cells cs t fr) ∧ aclT t = false
theorem RdW.fr {B : Nat} {w w' : World} {A : Option Addr} {n : Nat} {l : List (List UInt8)} (h : RdW w A n l) (hf : AFr B w w') : RdW w' A n l := by
  refine ⟨⟨h.1.1, h.1.2.1, fun hn => ?_⟩, fun g o e hn => ?_⟩
  · obtain ⟨g, o, e, hg, hc⟩ := h.1.2.2 hn
    obtain ⟨cs, t, fr, h1, h2⟩ := h.2 g o e hn
    exact ⟨g, o, e, Nat.lt_of_lt_of_le hg hf.size, fun j u hu => (World.cell?_of_block (w := w) ((hf.rows g cs t fr h1 h2).trans h1.symm)).trans (hc j u hu)⟩
  · obtain ⟨cs, t, fr, h1, h2⟩ := h.2 g o e hn
    exact ⟨cs, t, fr, hf.rows g cs t fr h1 h2, h2⟩
theorem RdW.drop {w : World} {g o n : Nat} {l : List (List UInt8)} (h : RdW w (some ⟨g, o, none⟩) n l) {i : Nat} (hi : i ≤ n) : RdW w (some ⟨g, o + i, none⟩) (n - i) (l.drop i) := by
  refine ⟨⟨by rw [List.length_drop, h.1.1], by rw [strs_length, List.length_drop, h.1.1, Nat.mul_one], fun hn => ?_⟩, fun g' o' e hn => ?_⟩
  · obtain ⟨g', o', e, hg, hc⟩ := h.1.2.2 (by omega)
    injection e with e
    injection e with e1 e2
    subst e1 e2
    refine ⟨g, o + i, rfl, hg, fun j u hu => ?_⟩
    rw [Nat.add_assoc]
    refine hc (i + j) u ?_
    unfold strs at *
    rw [List.map_drop, List.getElem?_drop] at hu
    exact hu
  · injection e with e
    injection e with e1 e2
    subst e1
    exact h.2 g o rfl (by omega)
def aRow (A : Nat → Option Addr) (n c : Nat → Nat) (i : Nat) : Value := .slice (A i) (n i) (c i)
/-- The elements' boxes and rows. -/
structure PE (w : World) (B : Nat) (bx : Nat → Nat) (A : Nat → Option Addr) (n c : Nat → Nat) (els : List Ac.El) : Prop where
  box : ∀ (k : Nat) (e : Ac.El), els[k]? = some e → B ≤ bx k ∧ w.heap[bx k]? = some (.cells #[.string (bs e.kd), aRow A n c k] 86 (0, 0))
  row : ∀ (k : Nat) (e : Ac.El), els[k]? = some e → n k = e.vs.length ∧ w.ownsRow B 88 1 (aRow A n c k) (n k) (e.vs.map (repV e.kd))
  ok : ∀ (k : Nat) (e : Ac.El), els[k]? = some e → ∀ v ∈ e.vs, ValOK e.kd v
  injB : ∀ i j, i < els.length → j < els.length → i ≠ j → bx i ≠ bx j
  injR : ∀ i j, i < els.length → j < els.length → i ≠ j → (aRow A n c i).ownBlock = none ∨ (aRow A n c i).ownBlock ≠ (aRow A n c j).ownBlock
def notE (t : TypeId) : Prop := t ≠ 86 ∧ t ≠ 88
theorem PE.grown {w w' : World} {B : Nat} {bx : Nat → Nat} {A : Nat → Option Addr} {n c : Nat → Nat} {els : List Ac.El} (h : PE w B bx A n c els) {row : Option Nat} (hg : w.grownBy w' row) (hs : Safe w row notE) : PE w' B bx A n c els :=
  ⟨fun k e he => ⟨(h.box k e he).1, block_safe hg hs (h.box k e he).2 (fun hn => hn.1 rfl)⟩, fun k e he => ⟨(h.row k e he).1, own_safe hg hs (h.row k e he).2 (fun hn => hn.2 rfl)⟩, h.ok, h.injB, h.injR⟩
/-- How a pointer to an element reads: its block. -/
def ptrR : Value → Option (DataW Unit × List MemPlace)
  | .pointer none => some (.nil, [])
  | .pointer (some ⟨g, 0, none⟩) => some (.lit (.int .i64 (g : Int)), [])
  | _ => none
theorem ptrR_some (g : Nat) : ptrR (.pointer (some ⟨g, 0, none⟩)) = some (.lit (.int .i64 (g : Int)), []) := rfl
theorem ptrR_inv_nil {v : Value} {z : List MemPlace} (h : ptrR v = some (.nil, z)) : v = .pointer none := by
  unfold ptrR at h
  split at h
  · rfl
  · simp at h
  · simp at h
theorem ptrR_inv_some {v : Value} {g : Nat} {z : List MemPlace} (h : ptrR v = some (.lit (.int .i64 (g : Int)), z)) : v = .pointer (some ⟨g, 0, none⟩) := by
  unfold ptrR at h
  split at h
  · simp at h
  · rename_i g'
    simp at h
    rw [show g' = g by omega]
  · simp at h
def elD : Option Nat → DataW Unit
  | none => .nil
  | some g => .lit (.int .i64 (g : Int))
def PM (w : World) (mb N : Nat) (bx : Nat → Nat) (els : List Ac.El) : Prop := ∃ D, w.ownsMap Tryz.prog 9 ptrR mb N D ∧ ∀ s : List UInt8, s.length ≤ maxLen → D.atKey (.string s) .nil = elD ((Ac.atI els s).map bx)
theorem PM.grown {w w' : World} {mb N : Nat} {bx : Nat → Nat} {els : List Ac.El} (h : PM w mb N bx els) {row : Option Nat} (hg : w.grownBy w' row) (hne : some mb ≠ row) : PM w' mb N bx els := by
  obtain ⟨D, h1, h2⟩ := h
  exact ⟨D, h1.kept hg hne, h2⟩
theorem PM.isMap {w : World} {mb N : Nat} {bx : Nat → Nat} {els : List Ac.El} (h : PM w mb N bx els) : ∃ es c, w.heap[mb]? = some (.map es c) := by
  obtain ⟨D, ⟨es, c, h1, _⟩, _⟩ := h
  exact ⟨es, c, h1⟩
theorem zeroPE (w : World) : (zeroValue 76).run Tryz.prog w = .ok (.pointer none) w := by kernel_rfl
theorem PM.look {w : World} {mb N : Nat} {bx : Nat → Nat} {els : List Ac.El} (h : PM w mb N bx els) {s : List UInt8} (hs : s.length ≤ maxLen) : (Instr.lookup 47 (.map (some mb)) (.string (bs s)) false).run Tryz.prog w = .ok (.pointer ((Ac.atI els s).map fun k => ⟨bx k, 0, none⟩)) w := by
  obtain ⟨D, hm, hat⟩ := h
  obtain ⟨v, ps, hrun, hv⟩ := hm.lookup law Tryz.underlying47 (zeroPE w) rfl (keyIs hs)
  rw [hrun]
  rw [hat s hs] at hv
  cases hl : Ac.atI els s with
  | none => rw [hl] at hv; rw [ptrR_inv_nil hv]; rfl
  | some g => rw [hl] at hv; rw [ptrR_inv_some hv]; rfl
/-- The rules' rows. -/
structure PR (w : World) (B : Nat) (bx : Nat → Nat) (els : List Ac.El) (R : Option Addr) (rn rc : Nat) (rus : List Ac.Ru) : Prop where
  ex : ∃ prs : List PRu, w.ownsRow B 60 3 (.slice R rn rc) rn (rcells prs) ∧ prs.length = rus.length ∧ ∀ (i : Nat) (p : PRu) (r : Ac.Ru), prs[i]? = some p → rus[i]? = some r → p.ln = r.ln ∧ p.al = r.al ∧ p.n ≤ 4194304 ∧ ∃ pts, w.ownsRow B 78 2 (.slice p.A p.n p.c) p.n (tcells pts) ∧ TmOK bx els pts r.ns
def notR (t : TypeId) : Prop := t ≠ 60 ∧ t ≠ 78
theorem PR.grown {w w' : World} {B : Nat} {bx : Nat → Nat} {els : List Ac.El} {R : Option Addr} {rn rc : Nat} {rus : List Ac.Ru} (h : PR w B bx els R rn rc rus) {row : Option Nat} (hg : w.grownBy w' row) (hs : Safe w row notR) : PR w' B bx els R rn rc rus := by
  obtain ⟨prs, h1, h2, h3⟩ := h.ex
  refine ⟨prs, own_safe hg hs h1 (fun hn => hn.1 rfl), h2, fun i p r k1 k2 => ?_⟩
  obtain ⟨q1, q2, q3, pts, q4, q5⟩ := h3 i p r k1 k2
  exact ⟨q1, q2, q3, pts, own_safe hg hs q4 (fun hn => hn.2 rfl), q5⟩
/-- The whole. -/
structure PW (w : World) (B g mb N : Nat) (bx : Nat → Nat) (A : Nat → Option Addr) (n c : Nat → Nat) (R : Option Addr) (rn rc : Nat) (L : Ac.LS) : Prop where
  base : B ≤ g ∧ B ≤ mb
  list : w.heap[g]? = some (.cells #[.map (some mb), .slice R rn rc] 50 (0, 0))
  map : PM w mb N bx L.els
  els : PE w B bx A n c L.els
  rus : PR w B bx L.els R rn rc L.rus
theorem PW.step {w w' : World} {B g mb N : Nat} {bx : Nat → Nat} {A : Nat → Option Addr} {n c : Nat → Nat} {R : Option Addr} {rn rc : Nat} {L : Ac.LS} (h : PW w B g mb N bx A n c R rn rc L) (hb : Below w.heap.size w w') : PW w' B g mb N bx A n c R rn rc L :=
  ⟨h.base, block_safe (T := fun _ => False) (grown_below hb) (Safe.none _ _) h.list id, h.map.grown (grown_below hb) (by simp), h.els.grown (grown_below hb) (Safe.none _ _), h.rus.grown (grown_below hb) (Safe.none _ _)⟩
def PWx (w : World) (B g mb N : Nat) (L : Ac.LS) : Prop := ∃ bx A n c R rn rc, PW w B g mb N bx A n c R rn rc L
end Go.Proofs.YtgkphjbcaidcpaaGreatDoor
set_option linter.unusedVariables false
set_option linter.unusedSimpArgs false
namespace Go.Proofs.YtgkphjbcaidcpaaGreatDoor
open Go.RowKit

set_option maxRecDepth 100000
theorem val_info : (Tryz.prog.info? 88).map (fun i => (i.zero, i.size, i.bytes)) = some (some .nilIface, 1, 16) := by kernel_rfl
theorem trm_info : (Tryz.prog.info? 78).map (fun i => (i.zero, i.size, i.bytes)) = some (some (.agg #[.pointer none, .bool false]), 2, 16) := by kernel_rfl
theorem rul_info : (Tryz.prog.info? 60).map (fun i => (i.zero, i.size, i.bytes)) = some (some (.agg #[.int .i64 0, .bool false, .slice none 0 0]), 3, 40) := by kernel_rfl
section
variable {w : World} {ops : Array Oper} {rest : List Oper} {o : Oper} {a : Act} {Q : Exit → Act → World → Prop}
/-- a value onto values; the row that turns is told -/
theorem wp_appV (hgd : o.guard = none) (s x : Operand) (ho : o.op = .call { callee := .builtin .append, args := #[s, x], argTypes := #[84, 84] })
    (base : Nat) (v : Value) (n : Nat) (xs : List Value) (hs : a.eval s = v) (hown : w.ownsRow base 88 1 v n xs) (A : Option Addr) (c : Nat) (u : Value) (hx : a.eval x = .slice A 1 c) (hr : Rd w 1 A 1 [u]) (h1 : u.oneCell' = true)
    (hn : n ≤ 4194304) (hbase : base ≤ w.heap.size)
    (h : ∀ A' c' w', w'.ownsRow base 88 1 (.slice A' (n + 1) c') (n + 1) (xs ++ [u]) → w.grownBy w' v.ownBlock → ((Value.slice A' (n + 1) c').ownBlock = v.ownBlock ∨ (Value.slice A' (n + 1) c').ownBlock = some w.heap.size) → wpList Tryz.prog ops Q rest (a.put o.dst (.slice A' (n + 1) c')) w') : wpList Tryz.prog ops Q (o :: rest) a w := by
  obtain ⟨i0, hi, hz0, hz1, hz2⟩ := info_parts val_info
  refine wpList_append_any w hgd s x 84 ho base 88 i0 .nilIface 1 16 Tryz.underlying84 hi hz0 hz1 hz2 rfl (by decide) v n xs hs hown A 1 c [u] hx hr (fun u' hu => by rw [List.mem_singleton.1 hu]; exact h1) (by unfold maxLen; omega) (by omega) hbase fun v' w' h2 h3 h4 => ?_
  obtain ⟨A', c', rfl⟩ := own_slice h2
  exact h A' c' w' h2 h3 h4
/-- a term onto terms -/
theorem wp_appT (hgd : o.guard = none) (s x : Operand) (ho : o.op = .call { callee := .builtin .append, args := #[s, x], argTypes := #[58, 58] })
    (base : Nat) (v : Value) (l : List (Nat × Bool)) (hs : a.eval s = v) (hown : w.ownsRow base 78 2 v l.length (tcells l)) (A : Option Addr) (c : Nat) (p : Nat × Bool) (hx : a.eval x = .slice A 1 c) (hr : Rd w 2 A 1 (tcells [p]))
    (hn : l.length ≤ 4194304) (hbase : base ≤ w.heap.size)
    (h : ∀ A' n' c' w', w'.ownsRow base 78 2 (.slice A' n' c') (l ++ [p]).length (tcells (l ++ [p])) → w.grownBy w' v.ownBlock → Hid (n' = l.length + 1) → wpList Tryz.prog ops Q rest (a.put o.dst (.slice A' n' c')) w') : wpList Tryz.prog ops Q (o :: rest) a w := by
  obtain ⟨i0, hi, hz0, hz1, hz2⟩ := info_parts trm_info
  refine wpList_append_any w hgd s x 58 ho base 78 i0 _ 2 16 Tryz.underlying58 hi hz0 hz1 hz2 rfl (by decide) v l.length (tcells l) hs hown A 1 c (tcells [p]) hx hr (tcells_one _) (by unfold maxLen; omega) (by omega) hbase fun v' w' h2 h3 _ => ?_
  obtain ⟨A', c', rfl⟩ := own_slice h2
  refine h A' _ c' w' ?_ h3 (Lib.hid rfl)
  rw [List.length_append, tcells_append]
  exact h2
/-- a rule onto rules, in a region that draws -/
theorem step_appU {K : Act → World → Prop} {E : Prop} (hgd : o.guard = none) (s x : Operand) (ho : o.op = .call { callee := .builtin .append, args := #[s, x], argTypes := #[48, 48] })
    (base : Nat) (v : Value) (l : List PRu) (hs : a.eval s = v) (hown : w.ownsRow base 60 3 v l.length (rcells l)) (A : Option Addr) (c : Nat) (p : PRu) (hx : a.eval x = .slice A 1 c) (hr : Rd w 3 A 1 (rcells [p]))
    (hn : l.length ≤ 4194304) (hbase : base ≤ w.heap.size)
    (h : ∀ A' n' c' w', w'.ownsRow base 60 3 (.slice A' n' c') (l ++ [p]).length (rcells (l ++ [p])) → w.grownBy w' v.ownBlock → Hid (n' = l.length + 1) → K (a.put o.dst (.slice A' n' c')) w') : if Region.wanted o (yielded ops a.tmps) = true then Oper.wp Tryz.prog o a w K Q else E := by
  obtain ⟨i0, hi, hz0, hz1, hz2⟩ := info_parts rul_info
  refine step_append_any w hgd s x 48 ho base 60 i0 _ 3 40 Tryz.underlying48 hi hz0 hz1 hz2 rfl (by decide) v l.length (rcells l) hs hown A 1 c (rcells [p]) hx hr (rcells_one _) (by unfold maxLen; omega) (by omega) hbase fun v' w' h2 h3 _ => ?_
  obtain ⟨A', c', rfl⟩ := own_slice h2
  refine h A' _ c' w' ?_ h3 (Lib.hid rfl)
  rw [List.length_append, rcells_append]
  exact h2
end
theorem repV_one (k v : List UInt8) : (repV k v).oneCell' = true := by
  unfold repV
  repeat' split
  all_goals rfl
set_option maxHeartbeats 1000000 in
theorem pmeth_any (s : List UInt8) (w : World) (hs : s.length ≤ 4194304) : Calls Tryz.prog 53 #[.string (bs s)] w fun e w' => PaOut Ac.methT s w e w' := by
  have hT := token_any s w (by omega)
  have HR := Lib.hid (repV_meth s)
  unfold PaOut
  rw [Ac.good_meth]
  generalize repV Ac.methT s = RV at *
  generalize Ac.tok s = R at *
  go_enter Tryz.func53, Tryz.ntmps53
  go_wp2_with fail
  refine hT.mono ?_
  rintro x w2 ⟨rfl, rfl⟩
  clear hT
  go_wp2
  go_ret2
  exact ⟨⟨_, rfl, fun _ => HR.out.symm⟩, Below.refl _ _⟩
theorem ppath_any (s : List UInt8) (w : World) : Calls Tryz.prog 54 #[.string (bs s)] w fun e w' => PaOut Ac.pathT s w e w' := by
  have HR := Lib.hid (repV_path s)
  unfold PaOut
  rw [Ac.good_path]
  generalize repV Ac.pathT s = RV at *
  go_enter Tryz.func54, Tryz.ntmps54
  go_wp2
  go_ret2
  exact ⟨⟨_, rfl, fun _ => HR.out.symm⟩, Below.refl _ _⟩
/-- The function of a kind. -/
theorem fnK_src : fnK Ac.srcT = some 50 := rfl
theorem fnK_host : fnK Ac.hostT = some 51 := rfl
theorem fnK_port : fnK Ac.portT = some 52 := rfl
theorem fnK_meth : fnK Ac.methT = some 53 := rfl
theorem fnK_path : fnK Ac.pathT = some 54 := rfl
theorem fnK_time : fnK Ac.timeT = some 55 := rfl
theorem fnK_bad {k : List UInt8} (h : fnK k = none) (v : List UInt8) : Ac.good k v = false := by
  unfold fnK at h
  unfold Ac.good
  repeat' split at h
  all_goals try cases h
  rename_i h6 h5 h4 h3 h2 h1
  rw [if_neg h1, if_neg h2, if_neg h3, if_neg h4, if_neg h5, if_neg h6]
theorem kind_enter {k : List UInt8} {K : Nat} (h : fnK k = some K) : (∀ (args : Array Value) (W : World), (callFunc K args).run Tryz.prog W = .ok (.enter K args) W) ∧ ∀ (v : List UInt8) (W : World), MaxL W → 1 ≤ v.length → v.length ≤ 4194304 → Calls Tryz.prog K #[.string (bs v)] W fun e w' => PaOut k v W e w' := by
  by_cases h6 : k = Ac.timeT
  · subst h6; rw [fnK_time] at h; injection h with h; subst h; exact ⟨fun _ _ => by kernel_rfl, fun v W hM _ h2 => parseWindow_any v W hM h2⟩
  by_cases h5 : k = Ac.pathT
  · subst h5; rw [fnK_path] at h; injection h with h; subst h; exact ⟨fun _ _ => by kernel_rfl, fun v W _ _ _ => ppath_any v W⟩
  by_cases h4 : k = Ac.methT
  · subst h4; rw [fnK_meth] at h; injection h with h; subst h; exact ⟨fun _ _ => by kernel_rfl, fun v W _ _ h2 => pmeth_any v W h2⟩
  by_cases h3 : k = Ac.portT
  · subst h3; rw [fnK_port] at h; injection h with h; subst h; exact ⟨fun _ _ => by kernel_rfl, fun v W hM _ h2 => parsePorts_any v W hM h2⟩
  by_cases h2 : k = Ac.hostT
  · subst h2; rw [fnK_host] at h; injection h with h; subst h; exact ⟨fun _ _ => by kernel_rfl, fun v W _ h1 h2 => parseHost_any v W h1 h2⟩
  by_cases h1 : k = Ac.srcT
  · subst h1; rw [fnK_src] at h; injection h with h; subst h; exact ⟨fun _ _ => by kernel_rfl, fun v W hM _ h2 => parseNetwork_any v W hM h2⟩
  unfold fnK at h
  rw [if_neg h6, if_neg h5, if_neg h4, if_neg h3, if_neg h2, if_neg h1] at h
  cases h
/-- A function that is turned at one place. -/
def up {α : Type} (f : Nat → α) (i : Nat) (x : α) : Nat → α := fun k => if k = i then x else f k
theorem up_same {α : Type} (f : Nat → α) (i : Nat) (x : α) : up f i x i = x := if_pos rfl
theorem up_ne {α : Type} (f : Nat → α) {i k : Nat} (x : α) (h : k ≠ i) : up f i x k = f k := if_neg h
theorem atI_lt {els : List Ac.El} {s : List UInt8} {k : Nat} (h : Ac.atI els s = some k) : k < els.length := by
  unfold Ac.atI at h
  exact (List.findIdx?_eq_some_iff_findIdx_eq.1 h).1
theorem atI_snoc (els : List Ac.El) (e : Ac.El) (s : List UInt8) : Ac.atI (els ++ [e]) s = (Ac.atI els s).or (if e.nm = s then some els.length else none) := by
  unfold Ac.atI
  rw [List.findIdx?_append]
  cases h : els.findIdx? (fun e => e.nm == s) with
  | some i => rfl
  | none =>
    by_cases e2 : e.nm = s
    · simp [e2]
    · simp [e2]
theorem atI_names {els els' : List Ac.El} (h : els.map (·.nm) = els'.map (·.nm)) (s : List UInt8) : Ac.atI els s = Ac.atI els' s := by
  unfold Ac.atI
  have h1 : ∀ l : List Ac.El, l.findIdx? (fun e => e.nm == s) = (l.map (·.nm)).findIdx? (fun x => x == s) := fun l => by rw [List.findIdx?_map]; rfl
  rw [h1, h1, h]
theorem atI_set (els : List Ac.El) (i : Nat) {e e' : Ac.El} (h : els[i]? = some e) (hn : e'.nm = e.nm) (s : List UInt8) : Ac.atI (els.set i e') s = Ac.atI els s := by
  refine atI_names ?_ s
  rw [List.map_set, hn]
  obtain ⟨hi, rfl⟩ := List.getElem?_eq_some_iff.1 h
  apply List.ext_getElem?
  intro k
  rw [List.getElem?_set]
  split
  · rename_i hk; subst hk; simp [hi]
  · rfl
theorem atI_get {els : List Ac.El} {s : List UInt8} {k : Nat} (h : Ac.atI els s = some k) : ∃ e, els[k]? = some e ∧ e.nm = s := by
  have hk := atI_lt h
  refine ⟨els[k], List.getElem?_eq_getElem hk, ?_⟩
  unfold Ac.atI at h
  have := (List.findIdx?_eq_some_iff_getElem.1 h).2.1
  simpa using this
section
variable {w : World} {B g mb N : Nat} {bx : Nat → Nat} {A : Nat → Option Addr} {n c : Nat → Nat} {R : Option Addr} {rn rc : Nat} {mels els : List Ac.El} {rus : List Ac.Ru}
theorem PM.up (h : PM w mb N bx els) (gb : Nat) : PM w mb N (up bx els.length gb) els := by
  obtain ⟨D, h1, h2⟩ := h
  refine ⟨D, h1, fun s hs => (h2 s hs).trans ?_⟩
  cases e : Ac.atI els s with
  | none => rfl
  | some k =>
    have := atI_lt e
    show elD (some (bx k)) = elD (some (Go.Proofs.YtgkphjbcaidcpaaGreatDoor.up bx els.length gb k))
    rw [up_ne bx gb (by omega)]
theorem PR.imp {els' : List Ac.El} {bx' : Nat → Nat} (h : PR w B bx els R rn rc rus) (hi : ∀ s k, Ac.atI els s = some k → Ac.atI els' s = some k) (hb : ∀ k, k < els.length → bx' k = bx k) : PR w B bx' els' R rn rc rus := by
  obtain ⟨prs, h1, h2, h3⟩ := h.ex
  refine ⟨prs, h1, h2, fun i p r k1 k2 => ?_⟩
  obtain ⟨q1, q2, q3, pts, q4, q5, q6⟩ := h3 i p r k1 k2
  refine ⟨q1, q2, q3, pts, q4, q5, fun j p nm l1 l2 => ?_⟩
  obtain ⟨m1, k, e, m2, m3, m4⟩ := q6 j p nm l1 l2
  obtain ⟨e', m5, _⟩ := atI_get (hi _ _ m2)
  exact ⟨m1, k, e', hi _ _ m2, m5, by rw [m4, hb k (atI_lt m2)]⟩
theorem PE.new (h : PE w B bx A n c els) {gb : Nat} {nm kd : List UInt8} (hb : w.heap[gb]? = some (.cells #[.string (bs kd), .slice none 0 0] 86 (0, 0))) (hB : B ≤ gb) (hne : ∀ k, k < els.length → bx k ≠ gb) :
    PE w B (up bx els.length gb) (up A els.length none) (up n els.length 0) (up c els.length 0) (els ++ [⟨nm, kd, []⟩]) := by
  have ha : ∀ k, k < els.length → aRow (up A els.length none) (up n els.length 0) (up c els.length 0) k = aRow A n c k := fun k hk => by unfold aRow; rw [up_ne A none (by omega), up_ne n 0 (by omega), up_ne c 0 (by omega)]
  have hl : aRow (up A els.length none) (up n els.length 0) (up c els.length 0) els.length = .slice none 0 0 := by unfold aRow; rw [up_same, up_same, up_same]
  have hs : ∀ (k : Nat) (e : Ac.El), (els ++ [⟨nm, kd, []⟩])[k]? = some e → (k < els.length ∧ els[k]? = some e) ∨ (k = els.length ∧ e = ⟨nm, kd, []⟩) := fun k e he => by
    by_cases hk : k < els.length
    · rw [List.getElem?_append_left hk] at he; exact .inl ⟨hk, he⟩
    · rw [List.getElem?_append_right (by omega)] at he
      have : k - els.length = 0 := by
        rcases Nat.eq_zero_or_pos (k - els.length) with h0 | h0
        · exact h0
        · rw [List.getElem?_eq_none (by simp; omega)] at he; cases he
      rw [this] at he
      simp at he
      exact .inr ⟨by omega, he.symm⟩
  refine ⟨fun k e he => ?_, fun k e he => ?_, fun k e he => ?_, fun i j hi hj hij => ?_, fun i j hi hj hij => ?_⟩
  · rcases hs k e he with ⟨hk, h1⟩ | ⟨rfl, rfl⟩
    · rw [up_ne bx gb (by omega), ha k hk]; exact h.box k e h1
    · rw [up_same, hl]; exact ⟨hB, hb⟩
  · rcases hs k e he with ⟨hk, h1⟩ | ⟨rfl, rfl⟩
    · rw [ha k hk, up_ne n 0 (by omega)]; exact h.row k e h1
    · rw [hl, up_same]; exact ⟨rfl, World.ownsRow_nil w B _ 1⟩
  · rcases hs k e he with ⟨hk, h1⟩ | ⟨rfl, rfl⟩
    · exact h.ok k e h1
    · intro v hv; cases hv
  · rw [List.length_append, List.length_singleton] at hi hj
    by_cases h1 : i < els.length
    · rw [up_ne bx gb (by omega)]
      by_cases h2 : j < els.length
      · rw [up_ne bx gb (by omega)]; exact h.injB i j h1 h2 hij
      · rw [show j = els.length by omega, up_same]; exact hne i h1
    · rw [show i = els.length by omega, up_same, up_ne bx gb (by omega)]
      exact fun e => hne j (by omega) e.symm
  · rw [List.length_append, List.length_singleton] at hi hj
    by_cases h1 : i < els.length
    · rw [ha i h1]
      by_cases h2 : j < els.length
      · rw [ha j h2]; exact h.injR i j h1 h2 hij
      · rw [show j = els.length by omega, hl]
        cases hq : (aRow A n c i).ownBlock with
        | none => exact .inl rfl
        | some g' => exact .inr (by intro e; cases e)
    · rw [show i = els.length by omega, hl]; exact .inl rfl
end
end Go.Proofs.YtgkphjbcaidcpaaGreatDoor
set_option linter.unusedVariables false
set_option linter.unusedSimpArgs false
namespace Go.Proofs.YtgkphjbcaidcpaaGreatDoor
open Go.RowKit

set_option maxRecDepth 100000
section
variable {w : World} {B g mb N : Nat} {bx : Nat → Nat} {A : Nat → Option Addr} {n c : Nat → Nat} {R : Option Addr} {rn rc : Nat} {mels els : List Ac.El} {rus : List Ac.Ru}
theorem get_set_cases {α : Type} {l : List α} {i k : Nat} {x y : α} (h : (l.set i x)[k]? = some y) : (k = i ∧ i < l.length ∧ y = x) ∨ (k ≠ i ∧ l[k]? = some y) := by
  rw [List.getElem?_set] at h
  split at h
  · rename_i e; subst e
    split at h
    · rename_i hl; injection h with h; exact .inl ⟨rfl, hl, h.symm⟩
    · cases h
  · rename_i e; exact .inr ⟨fun h2 => e h2.symm, h⟩
/-- A value more in an element's row: behind the append, and behind the store. -/
theorem PE.val (h : PE w B bx A n c els) {i : Nat} {e : Ac.El} (he : els[i]? = some e) {v : List UInt8} (hv : ValOK e.kd v) {A' : Option Addr} {c' : Nat} {w2 : World}
    (ho : w2.ownsRow B 88 1 (.slice A' (n i + 1) c') (n i + 1) (e.vs.map (repV e.kd) ++ [repV e.kd v])) (hg : w.grownBy w2 (aRow A n c i).ownBlock)
    (hs : (Value.slice A' (n i + 1) c').ownBlock = (aRow A n c i).ownBlock ∨ (Value.slice A' (n i + 1) c').ownBlock = some w.heap.size) :
    PE (w2.setCell ⟨bx i, 1, none⟩ (.slice A' (n i + 1) c')) B bx (up A i A') (up n i (n i + 1)) (up c i c') (els.set i ⟨e.nm, e.kd, e.vs ++ [v]⟩) := by
  have hi : i < els.length := (List.getElem?_eq_some_iff.1 he).1
  have ha : ∀ k, k ≠ i → aRow (up A i A') (up n i (n i + 1)) (up c i c') k = aRow A n c k := fun k hk => by unfold aRow; rw [up_ne A A' hk, up_ne n _ hk, up_ne c c' hk]
  have hl : aRow (up A i A') (up n i (n i + 1)) (up c i c') i = .slice A' (n i + 1) c' := by unfold aRow; rw [up_same, up_same, up_same]
  have hb := h.box i e he
  have hb2 : w2.heap[bx i]? = some (.cells #[.string (bs e.kd), aRow A n c i] 86 (0, 0)) := block_safe hg (safe_own (h.row i e he).2 (T := fun t => t = 88) rfl) hb.2 (by decide)
  have hgs := grown_set w2 (bx i) 1 (.slice A' (n i + 1) c')
  have hss : Safe w2 (some (bx i)) fun t => t = 86 := safe_row hb2 rfl
  have hlen : (els.set i ⟨e.nm, e.kd, e.vs ++ [v]⟩).length = els.length := List.length_set
  refine ⟨fun k e' hk => ?_, fun k e' hk => ?_, fun k e' hk => ?_, fun a b h1 h2 h3 => h.injB a b (by omega) (by omega) h3, fun a b h1 h2 h3 => ?_⟩
  · rcases get_set_cases hk with ⟨rfl, _, rfl⟩ | ⟨hne, hk'⟩
    · rw [hl]
      refine ⟨hb.1, ?_⟩
      rw [heap_setCell_same w2 (bx k) 1 _ _ _ hb2]
      rfl
    · rw [ha k hne]
      have hk2 := h.box k e' hk'
      refine ⟨hk2.1, ?_⟩
      have h4 : w2.heap[bx k]? = some (.cells #[.string (bs e'.kd), aRow A n c k] 86 (0, 0)) := block_safe hg (safe_own (h.row i e he).2 (T := fun t => t = 88) rfl) hk2.2 (by decide)
      exact (hgs.block (bx k) (Array.getElem?_eq_some_iff.1 h4).1 (fun e9 => h.injB k i (List.getElem?_eq_some_iff.1 hk').1 hi hne (by injection e9))).trans h4
  · rcases get_set_cases hk with ⟨rfl, _, rfl⟩ | ⟨hne, hk'⟩
    · rw [hl, up_same]
      refine ⟨by rw [List.length_append, (h.row k e he).1]; rfl, ?_⟩
      rw [List.map_append]
      exact own_safe hgs hss ho (by decide)
    · rw [ha k hne, up_ne n _ hne]
      have hk2 := h.row k e' hk'
      refine ⟨hk2.1, own_safe hgs hss (hk2.2.kept hg ?_) (by decide)⟩
      exact h.injR k i (List.getElem?_eq_some_iff.1 hk').1 hi hne
  · rcases get_set_cases hk with ⟨rfl, _, rfl⟩ | ⟨hne, hk'⟩
    · intro u hu
      rcases List.mem_append.1 hu with h5 | h5
      · exact h.ok k e he u h5
      · rw [List.mem_singleton.1 h5]; exact hv
    · exact h.ok k e' hk'
  · have hlt : ∀ (k : Nat), k < els.length → ∀ j, (aRow A n c k).ownBlock = some j → j < w.heap.size := fun k hk j hj => ((h.row k els[k] (List.getElem?_eq_getElem hk)).2.lt j hj).2
    rw [hlen] at h1 h2
    by_cases e1 : a = i
    · subst e1
      rw [hl, ha b (fun e => h3 e.symm)]
      rcases hs with hs | hs
      · rw [hs]; exact h.injR a b h1 h2 h3
      · rw [hs]
        refine .inr fun e9 => ?_
        have := hlt b h2 _ e9.symm
        omega
    · rw [ha a e1]
      by_cases e2 : b = i
      · subst e2
        rw [hl]
        rcases hs with hs | hs
        · rw [hs]; exact h.injR a b h1 h2 h3
        · rw [hs]
          refine .inr fun e9 => ?_
          have := hlt a h1 _ e9
          omega
      · rw [ha b e2]; exact h.injR a b h1 h2 h3
/-- The list while define writes. -/
structure PD (w : World) (B g mb N : Nat) (bx : Nat → Nat) (A : Nat → Option Addr) (n c : Nat → Nat) (R : Option Addr) (rn rc : Nat) (mels els : List Ac.El) (rus : List Ac.Ru) : Prop where
  base : B ≤ g ∧ B ≤ mb
  list : w.heap[g]? = some (.cells #[.map (some mb), .slice R rn rc] 50 (0, 0))
  map : PM w mb N bx mels
  els : PE w B bx A n c els
  rus : PR w B bx mels R rn rc rus
theorem PW.pd {L : Ac.LS} (h : PW w B g mb N bx A n c R rn rc L) : PD w B g mb N bx A n c R rn rc L.els L.els L.rus := ⟨h.base, h.list, h.map, h.els, h.rus⟩
theorem PD.step {w' : World} (h : PD w B g mb N bx A n c R rn rc mels els rus) (hb : Below w.heap.size w w') : PD w' B g mb N bx A n c R rn rc mels els rus :=
  ⟨h.base, block_safe (T := fun _ => False) (grown_below hb) (Safe.none _ _) h.list id, h.map.grown (grown_below hb) (by simp), h.els.grown (grown_below hb) (Safe.none _ _), h.rus.grown (grown_below hb) (Safe.none _ _)⟩
theorem PD.new (h : PD w B g mb N bx A n c R rn rc mels mels rus) {gb : Nat} {nm kd : List UInt8} (hb : w.heap[gb]? = some (.cells #[.string (bs kd), .slice none 0 0] 86 (0, 0))) (hB : B ≤ gb) (hne : ∀ k, k < mels.length → bx k ≠ gb) :
    PD w B g mb N (up bx mels.length gb) (up A mels.length none) (up n mels.length 0) (up c mels.length 0) R rn rc mels (mels ++ [⟨nm, kd, []⟩]) rus :=
  ⟨h.base, h.list, h.map.up gb, h.els.new hb hB hne, h.rus.imp (fun _ _ h => h) fun k hk => up_ne bx gb (by omega)⟩
theorem ne_map {w : World} {mb k : Nat} {es : Array MapEntry} {cl : Nat} {cs : Array Value} {t : TypeId} {fr : Nat × Nat} (hm : w.heap[mb]? = some (.map es cl)) (h : w.heap[k]? = some (.cells cs t fr)) : mb ≠ k := fun e => by subst e; rw [hm] at h; cases h
theorem PD.val (h : PD w B g mb N bx A n c R rn rc mels els rus) {i : Nat} {e : Ac.El} (he : els[i]? = some e) {v : List UInt8} (hv : ValOK e.kd v) {A' : Option Addr} {c' : Nat} {w2 : World}
    (ho : w2.ownsRow B 88 1 (.slice A' (n i + 1) c') (n i + 1) (e.vs.map (repV e.kd) ++ [repV e.kd v])) (hg : w.grownBy w2 (aRow A n c i).ownBlock)
    (hs : (Value.slice A' (n i + 1) c').ownBlock = (aRow A n c i).ownBlock ∨ (Value.slice A' (n i + 1) c').ownBlock = some w.heap.size) :
    PD (w2.setCell ⟨bx i, 1, none⟩ (.slice A' (n i + 1) c')) B g mb N bx (up A i A') (up n i (n i + 1)) (up c i c') R rn rc mels (els.set i ⟨e.nm, e.kd, e.vs ++ [v]⟩) rus := by
  have hown := (h.els.row i e he).2
  have hs1 : Safe w (aRow A n c i).ownBlock fun t => t = 88 := safe_own hown rfl
  have hb := h.els.box i e he
  have hb2 : w2.heap[bx i]? = some (.cells #[.string (bs e.kd), aRow A n c i] 86 (0, 0)) := block_safe hg hs1 hb.2 (by decide)
  have hgs := grown_set w2 (bx i) 1 (.slice A' (n i + 1) c')
  have hss : Safe w2 (some (bx i)) fun t => t = 86 := safe_row hb2 rfl
  obtain ⟨es, cl, hm⟩ := h.map.isMap
  have hm1 : some mb ≠ (aRow A n c i).ownBlock := fun e9 => by
    rcases hown.2 with ⟨h1, _⟩ | ⟨g', cap, cur, h1, _, hg', _⟩
    · rw [h1] at e9; cases e9
    · rw [h1] at e9
      have : mb = g' := by simpa [Value.ownBlock] using e9
      exact ne_map hm hg' this
  have k1 := h.map.grown hg hm1
  obtain ⟨es2, cl2, hm2⟩ := k1.isMap
  exact ⟨h.base, block_safe hgs hss (block_safe hg hs1 h.list (by decide)) (by decide), k1.grown hgs (fun e9 => ne_map hm2 hb2 (by injection e9)), h.els.val he hv ho hg hs, (h.rus.grown hg (hs1.imp fun t e => by subst e; exact ⟨by decide, by decide⟩)).grown hgs (hss.imp fun t e => by subst e; exact ⟨by decide, by decide⟩)⟩
theorem PD.afr {B' : Nat} {w0 : World} (hf : AFr B' w0 w) (h : PD w B g mb N bx A n c R rn rc mels els rus) (hB : B' ≤ B) (hBw : B' ≤ w.heap.size) {i : Nat} {e : Ac.El} (he : els[i]? = some e) {w2 : World} (hg : w.grownBy w2 (aRow A n c i).ownBlock) (x : Value) :
    AFr B' w0 (w2.setCell ⟨bx i, 1, none⟩ x) := by
  have hown := (h.els.row i e he).2
  have hs1 : Safe w (aRow A n c i).ownBlock fun t => t = 88 := safe_own hown rfl
  have hb := h.els.box i e he
  have hb2 : w2.heap[bx i]? = some (.cells #[.string (bs e.kd), aRow A n c i] 86 (0, 0)) := block_safe hg hs1 hb.2 (by decide)
  refine (hf.grown hg hBw (fun k e9 => Nat.le_trans hB (hown.lt k e9).1) (hs1.imp fun t e => by subst e; rfl)).grown (grown_set w2 (bx i) 1 x) (Nat.le_trans hBw hg.size) (fun k e9 => ?_) ((safe_row hb2 (T := fun t => t = 86) rfl).imp fun t e => by subst e; rfl)
  injection e9 with e9
  subst e9
  exact Nat.le_trans hB hb.1
/-- The map's entry. -/
theorem PD.put (h : PD w B g mb N bx A n c R rn rc mels els rus) {i : Nat} {nm : List UInt8} (hi : Ac.atI els nm = some i) (hs : ∀ s, s ≠ nm → Ac.atI els s = Ac.atI mels s) (hup : ∀ s k, Ac.atI mels s = some k → Ac.atI els s = some k) (hnm : nm.length ≤ maxLen) (hN : N < maxLen) :
    ∃ w', (Instr.mapUpdate 47 (.map (some mb)) (.string (bs nm)) (.pointer (some ⟨bx i, 0, none⟩))).run Tryz.prog w = .ok () w' ∧ PW w' B g mb (N + 1) bx A n c R rn rc ⟨els, rus⟩ ∧ w.grownBy w' (some mb) := by
  obtain ⟨D, hm, hat⟩ := h.map
  obtain ⟨es, cl, hmm⟩ := h.map.isMap
  obtain ⟨w', hr, hm', hg⟩ := hm.update law Tryz.underlying47 hN (keyIs hnm) (ptrR_some (bx i))
  have hat' := put_at hm.isMap (key := nm) (d := .lit (.int .i64 ((bx i : Nat) : Int))) (f := fun s => elD ((Ac.atI mels s).map bx)) hat
  have hsf : ∀ T, Safe w (some mb) T := fun T k e => by cases e; exact .inr (.inr ⟨es, cl, hmm⟩)
  refine ⟨w', hr, ⟨h.base, block_safe (T := fun _ => False) hg (hsf _) h.list id, ⟨_, hm', fun s hsl => (hat' s hsl).trans ?_⟩, h.els.grown hg (hsf _), (h.rus.grown hg (hsf _)).imp hup fun _ _ => rfl⟩, hg⟩
  show (if s = nm then _ else elD ((Ac.atI mels s).map bx)) = elD ((Ac.atI els s).map bx)
  by_cases e : s = nm
  · rw [if_pos e, e, hi]; rfl
  · rw [if_neg e, hs s e]
end
end Go.Proofs.YtgkphjbcaidcpaaGreatDoor
