/- Joined texts: The reference's line, its steps in memory: appends of rules and elements, what the new list reads as. The conditions stand in each line. -/
import Derived.Test.YtgkphjbcaidcpaaGreatDoorM20
set_option linter.unusedVariables false
set_option linter.unusedSimpArgs false
namespace Go.Proofs.YtgkphjbcaidcpaaGreatDoor
open Go.RowKit

set_option maxRecDepth 100000
theorem ruR_info : (Tryz.prog.info? 63).map (fun i => (i.zero, i.size, i.bytes)) = some (some (.agg #[.int .i64 0, .bool false, .slice none 0 0]), 3, 40) := by kernel_rfl
theorem elR_info : (Tryz.prog.info? 75).map (fun i => (i.zero, i.size, i.bytes)) = some (some (.agg #[.string ⟨#[]⟩, .string ⟨#[]⟩, .slice none 0 0]), 3, 56) := by kernel_rfl
def OwnU (w : World) (B : Nat) (v : Value) (l : List PRu) : Prop := w.ownsRow B 63 3 v l.length (rcells l)
def OwnE (w : World) (B : Nat) (v : Value) (l : List PEl) : Prop := w.ownsRow B 75 3 v l.length (ecells l)
theorem OwnU.made (w : World) : OwnU (w.alloc (.cells #[] 63)) w.heap.size (.slice (some ⟨w.heap.size, 0, none⟩) 0 0) [] := own_made0 w _ 3 #[] rfl
theorem OwnE.made (w : World) : OwnE (w.alloc (.cells #[] 75)) w.heap.size (.slice (some ⟨w.heap.size, 0, none⟩) 0 0) [] := own_made0 w _ 3 #[] rfl
theorem OwnU.rd {w : World} {B n c : Nat} {A : Option Addr} {l : List PRu} (h : OwnU w B (.slice A n c) l) : RdR w A n l := by
  have h' : w.ownsRow B 63 3 (.slice A n c) l.length (rcells l) := h
  obtain ⟨A', c', e⟩ := own_slice h'
  injection e with e1 e2 e3
  subst e1 e2
  exact ⟨rfl, Rd.of_own h'⟩
theorem OwnE.rd {w : World} {B n c : Nat} {A : Option Addr} {l : List PEl} (h : OwnE w B (.slice A n c) l) : RdE w A n l := by
  have h' : w.ownsRow B 75 3 (.slice A n c) l.length (ecells l) := h
  obtain ⟨A', c', e⟩ := own_slice h'
  injection e with e1 e2 e3
  subst e1 e2
  exact ⟨rfl, Rd.of_own h'⟩
theorem OwnU.step {w w' : World} {B : Nat} {v : Value} {l : List PRu} (h : OwnU w B v l) (hb : Below w.heap.size w w') : OwnU w' B v l := own_step h hb
theorem OwnE.step {w w' : World} {B : Nat} {v : Value} {l : List PEl} (h : OwnE w B v l) (hb : Below w.heap.size w w') : OwnE w' B v l := own_step h hb
section
variable {w : World} {ops : Array Oper} {rest : List Oper} {o : Oper} {a : Act} {Q : Exit → Act → World → Prop}
/-- rules onto rules; elements onto elements -/
theorem wp_appU (hgd : o.guard = none) (s x : Operand) (ho : o.op = .call { callee := .builtin .append, args := #[s, x], argTypes := #[29, 29] })
    (base : Nat) (v : Value) (l : List PRu) (hs : a.eval s = v) (hown : OwnU w base v l) (A : Option Addr) (m c : Nat) (news : List PRu) (hx : a.eval x = .slice A m c) (hr : RdR w A m news)
    (hn : l.length + m ≤ 4194304) (hbase : base ≤ w.heap.size)
    (h : ∀ A' n' c' w', OwnU w' base (.slice A' n' c') (l ++ news) → Below base w w' → Hid (n' = l.length + m) → wpList Tryz.prog ops Q rest (a.put o.dst (.slice A' n' c')) w') : wpList Tryz.prog ops Q (o :: rest) a w := by
  obtain ⟨i0, hi, hz0, hz1, hz2⟩ := info_parts ruR_info
  refine wpList_app Tryz.underlying29 hi hz0 hz1 hz2 rfl (by omega) (by omega) hgd s x ho base v l.length (rcells l) hs hown A m c (rcells news) hx hr.2 (rcells_one _) (by omega) hbase fun A' c' w' h1 h2 => h A' _ c' w' ?_ h2 (Lib.hid rfl)
  unfold OwnU
  rw [List.length_append, hr.1, rcells_append]
  exact h1
theorem wp_appE (hgd : o.guard = none) (s x : Operand) (ho : o.op = .call { callee := .builtin .append, args := #[s, x], argTypes := #[28, 28] })
    (base : Nat) (v : Value) (l : List PEl) (hs : a.eval s = v) (hown : OwnE w base v l) (A : Option Addr) (m c : Nat) (news : List PEl) (hx : a.eval x = .slice A m c) (hr : RdE w A m news)
    (hn : l.length + m ≤ 4194304) (hbase : base ≤ w.heap.size)
    (h : ∀ A' n' c' w', OwnE w' base (.slice A' n' c') (l ++ news) → Below base w w' → Hid (n' = l.length + m) → wpList Tryz.prog ops Q rest (a.put o.dst (.slice A' n' c')) w') : wpList Tryz.prog ops Q (o :: rest) a w := by
  obtain ⟨i0, hi, hz0, hz1, hz2⟩ := info_parts elR_info
  refine wpList_app Tryz.underlying28 hi hz0 hz1 hz2 rfl (by omega) (by omega) hgd s x ho base v l.length (ecells l) hs hown A m c (ecells news) hx hr.2 (ecells_one _) (by omega) hbase fun A' c' w' h1 h2 => h A' _ c' w' ?_ h2 (Lib.hid rfl)
  unfold OwnE
  rw [List.length_append, hr.1, ecells_append]
  exact h1
/-- one rule, one element, in a region that draws -/
theorem step_appR {K : Act → World → Prop} {G : Prop} (hgd : o.guard = none) (s x : Operand) (ho : o.op = .call { callee := .builtin .append, args := #[s, x], argTypes := #[29, 29] })
    (base : Nat) (v : Value) (l : List PRu) (hs : a.eval s = v) (hown : OwnU w base v l) (A : Option Addr) (c : Nat) (p : PRu) (hx : a.eval x = .slice A 1 c) (hr : Rd w 3 A 1 (rcells [p]))
    (hn : l.length ≤ 4194304) (hbase : base ≤ w.heap.size)
    (h : ∀ A' n' c' w', OwnU w' base (.slice A' n' c') (l ++ [p]) → Below base w w' → Hid (n' = l.length + 1) → K (a.put o.dst (.slice A' n' c')) w') : if Region.wanted o (yielded ops a.tmps) = true then Oper.wp Tryz.prog o a w K Q else G := by
  obtain ⟨i0, hi, hz0, hz1, hz2⟩ := info_parts ruR_info
  refine step_append_any w hgd s x 29 ho base 63 i0 _ 3 40 Tryz.underlying29 hi hz0 hz1 hz2 rfl (by decide) v l.length (rcells l) hs hown A 1 c (rcells [p]) hx hr (rcells_one _) (by unfold maxLen; omega) (by omega) hbase fun v' w' h2 h3 _ => ?_
  obtain ⟨A', c', rfl⟩ := own_slice h2
  refine h A' _ c' w' ?_ ((Below.refl base w).grown h3 hbase fun k hk => (World.ownsRow.lt hown k hk).1) (Lib.hid rfl)
  unfold OwnU
  rw [List.length_append, rcells_append]
  exact h2
theorem step_appEl {K : Act → World → Prop} {G : Prop} (hgd : o.guard = none) (s x : Operand) (ho : o.op = .call { callee := .builtin .append, args := #[s, x], argTypes := #[28, 28] })
    (base : Nat) (v : Value) (l : List PEl) (hs : a.eval s = v) (hown : OwnE w base v l) (A : Option Addr) (c : Nat) (p : PEl) (hx : a.eval x = .slice A 1 c) (hr : Rd w 3 A 1 (ecells [p]))
    (hn : l.length ≤ 4194304) (hbase : base ≤ w.heap.size)
    (h : ∀ A' n' c' w', OwnE w' base (.slice A' n' c') (l ++ [p]) → Below base w w' → Hid (n' = l.length + 1) → K (a.put o.dst (.slice A' n' c')) w') : if Region.wanted o (yielded ops a.tmps) = true then Oper.wp Tryz.prog o a w K Q else G := by
  obtain ⟨i0, hi, hz0, hz1, hz2⟩ := info_parts elR_info
  refine step_append_any w hgd s x 28 ho base 75 i0 _ 3 56 Tryz.underlying28 hi hz0 hz1 hz2 rfl (by decide) v l.length (ecells l) hs hown A 1 c (ecells [p]) hx hr (ecells_one _) (by unfold maxLen; omega) (by omega) hbase fun v' w' h2 h3 _ => ?_
  obtain ⟨A', c', rfl⟩ := own_slice h2
  refine h A' _ c' w' ?_ ((Below.refl base w).grown h3 hbase fun k hk => (World.ownsRow.lt hown k hk).1) (Lib.hid rfl)
  unfold OwnE
  rw [List.length_append, ecells_append]
  exact h2
end
theorem ruR_rd (w : World) (p : PRu) : Rd ((w.alloc (.cells #[.int .i64 (p.ln : Int), .bool p.al, .slice p.A p.n p.c] 63)).drew) 3 (some ⟨w.heap.size, 0, none⟩) 1 (rcells [p]) := by
  have h : Rd (w.alloc (.cells #[.int .i64 (p.ln : Int), .bool p.al, .slice p.A p.n p.c] 63)) 3 (some ⟨w.heap.size, 0, none⟩) 1 (rcells [p]) := by
    refine ⟨rfl, fun _ => ⟨w.heap.size, 0, rfl, by simp, fun j u hu => ?_⟩⟩
    rw [Nat.zero_add, cell_of_row _ _ _ _ _ (0, 0) (heap_alloc_new w _)]
    simpa [rcells] using hu
  exact h.step ((Below.refl _ _).drew)
theorem elR_rd (w : World) (p : PEl) : Rd ((w.alloc (.cells #[.string (bs p.nm), .string (bs p.kd), .slice p.A p.n p.c] 75)).drew) 3 (some ⟨w.heap.size, 0, none⟩) 1 (ecells [p]) := by
  have h : Rd (w.alloc (.cells #[.string (bs p.nm), .string (bs p.kd), .slice p.A p.n p.c] 75)) 3 (some ⟨w.heap.size, 0, none⟩) 1 (ecells [p]) := by
    refine ⟨rfl, fun _ => ⟨w.heap.size, 0, rfl, by simp, fun j u hu => ?_⟩⟩
    rw [Nat.zero_add, cell_of_row _ _ _ _ _ (0, 0) (heap_alloc_new w _)]
    simpa [ecells] using hu
  exact h.step ((Below.refl _ _).drew)
/-- A store below a row's base. -/
theorem own_setJ {w : World} {base : Nat} {e : TypeId} {size n : Nat} {v : Value} {xs : List Value} (h : w.ownsRow base e size v n xs) {g : Nat} (hg : g < base) (o : Nat) (u : Value) : (w.setCell ⟨g, o, none⟩ u).ownsRow base e size v n xs :=
  h.kept (grown_set w g o u) (by
    cases hv : v.ownBlock with
    | none => simp
    | some k =>
      have := (h.lt k hv).1
      simp; omega)
theorem OwnU.setJ {w : World} {base : Nat} {v : Value} {l : List PRu} (h : OwnU w base v l) {g : Nat} (hg : g < base) (o : Nat) (u : Value) : OwnU (w.setCell ⟨g, o, none⟩ u) base v l := own_setJ h hg o u
theorem OwnE.setJ {w : World} {base : Nat} {v : Value} {l : List PEl} (h : OwnE w base v l) {g : Nat} (hg : g < base) (o : Nat) (u : Value) : OwnE (w.setCell ⟨g, o, none⟩ u) base v l := own_setJ h hg o u
theorem OwnS.setJ {w : World} {base : Nat} {v : Value} {l : List (List UInt8)} (h : OwnS w base v l) {g : Nat} (hg : g < base) (o : Nat) (u : Value) : OwnS (w.setCell ⟨g, o, none⟩ u) base v l := own_setJ h hg o u
/-- A slice that is empty or lies above a bound. -/
def Ab (B : Nat) (A : Option Addr) (n : Nat) : Prop := 0 < n → ∀ g o, A = some ⟨g, o, none⟩ → B ≤ g
theorem Ab.zero (B : Nat) (A : Option Addr) : Ab B A 0 := fun h => by omega
theorem Ab.at_ {B g o n : Nat} (h : B ≤ g) : Ab B (some ⟨g, o, none⟩) n := fun _ g' o' e => by injection e with e; injection e with e1 e2; subst e1; exact h
theorem ab_own {w : World} {B base : Nat} {e : TypeId} {size m n c : Nat} {A : Option Addr} {xs : List Value} (h : w.ownsRow base e size (.slice A n c) m xs) (hB : B ≤ base) : Ab B A n := fun _ g o e => by
  subst e
  exact Nat.le_trans hB (h.lt g rfl).1
/-- A list of the reference's, all of it above a bound. -/
structure RLB (B : Nat) (w : World) (E : Option Addr) (en : Nat) (R : Option Addr) (rn : Nat) (L : Ac.LS) : Prop where
  els : ∃ pes, RdE w E en pes ∧ ElsOK w pes L.els ∧ Ab B E en ∧ ∀ p ∈ pes, Ab B p.A p.n
  rus : ∃ prs, RdR w R rn prs ∧ RusOK w prs L.rus ∧ Ab B R rn ∧ ∀ p ∈ prs, Ab B p.A p.n
  en_le : en ≤ 4194304
  rn_le : rn ≤ 4194304
theorem RLB.r {B : Nat} {w : World} {E R : Option Addr} {en rn : Nat} {L : Ac.LS} (h : RLB B w E en R rn L) : RLst w E en R rn L := by
  obtain ⟨⟨pes, h1, h2, _⟩, ⟨prs, h3, h4, _⟩, h5, h6⟩ := h
  exact ⟨⟨pes, h1, h2⟩, ⟨prs, h3, h4⟩, h5, h6⟩
theorem RLB.step {B : Nat} {w w' : World} {E R : Option Addr} {en rn : Nat} {L : Ac.LS} (h : RLB B w E en R rn L) (hb : Below w.heap.size w w') : RLB B w' E en R rn L := by
  obtain ⟨⟨pes, h1, h2, g1⟩, ⟨prs, h3, h4, g2⟩, h5, h6⟩ := h
  exact ⟨⟨pes, h1.step hb, h2.step hb, g1⟩, ⟨prs, h3.step hb, h4.step hb, g2⟩, h5, h6⟩
theorem rd_setB {w : World} {sz n : Nat} {A : Option Addr} {xs : List Value} (h : Rd w sz A n xs) {B : Nat} (ha : Ab B A n) {b : Nat} (hb : b < B) (o : Nat) (u : Value) : Rd (w.setCell ⟨b, o, none⟩ u) sz A n xs := by
  refine ⟨h.1, fun hn => ?_⟩
  obtain ⟨g, o', e, hg, hc⟩ := h.2 hn
  have hgb := ha hn g o' e
  refine ⟨g, o', e, by simp [World.setCell]; exact hg, fun j v hv => ?_⟩
  exact (World.cell?_of_block (w := w) (a := ⟨g, o' + j, none⟩) (Below.heap_setCell _ _ _ _ (by show g ≠ b; omega))).trans (hc j v hv)
theorem RLB.set {B : Nat} {w : World} {E R : Option Addr} {en rn : Nat} {L : Ac.LS} (h : RLB B w E en R rn L) {b : Nat} (hb : b < B) (o : Nat) (u : Value) : RLB B (w.setCell ⟨b, o, none⟩ u) E en R rn L := by
  obtain ⟨⟨pes, h1, h2, g1, g3⟩, ⟨prs, h3, h4, g2, g4⟩, h5, h6⟩ := h
  refine ⟨⟨pes, ⟨h1.1, rd_setB h1.2 g1 hb o u⟩, ⟨h2.1, fun i p e k1 k2 => ?_⟩, g1, g3⟩, ⟨prs, ⟨h3.1, rd_setB h3.2 g2 hb o u⟩, ⟨h4.1, fun i p r k1 k2 => ?_⟩, g2, g4⟩, h5, h6⟩
  · obtain ⟨q1, q2, q3, q4⟩ := h2.2 i p e k1 k2
    exact ⟨q1, q2, q3, q4.1, rd_setB q4.2 (g3 p (mem_of_get? k1)) hb o u⟩
  · obtain ⟨q1, q2, q3, q4⟩ := h4.2 i p r k1 k2
    exact ⟨q1, q2, q3, q4.1, rd_setB q4.2 (g4 p (mem_of_get? k1)) hb o u⟩
theorem RLB.nil (B : Nat) (w : World) : RLB B w none 0 none 0 Ac.LS.nil :=
  ⟨⟨[], ⟨rfl, Rd.nil _ _ _⟩, ⟨rfl, fun i p e h => by simp at h⟩, Ab.zero _ _, fun p h => by simp at h⟩, ⟨[], ⟨rfl, Rd.nil _ _ _⟩, ⟨rfl, fun i p e h => by simp at h⟩, Ab.zero _ _, fun p h => by simp at h⟩, by omega, by omega⟩
/-- The new lists. -/
theorem RLB.rule {B : Nat} {w W : World} {E R : Option Addr} {en rn : Nat} {L : Ac.LS} (hL : RLB B w E en R rn L) (hb : Below w.heap.size w W) {prs : List PRu} (hO : RusOK w prs L.rus) (hAP : ∀ p ∈ prs, Ab B p.A p.n) {A7 : Option Addr} {n7 : Nat} {p : PRu} {r : Ac.Ru} (hR : RdR W A7 n7 (prs ++ [p])) (hA7 : Ab B A7 n7) (hAp : Ab B p.A p.n)
    (hp : p.ln = r.ln ∧ p.al = r.al ∧ p.n ≤ 4194304) (hns : RdS w p.A p.n r.ns) (hr : L.rus.length + 1 ≤ 4194304) : RLB B W E en A7 n7 ⟨L.els, L.rus ++ [r]⟩ := by
  obtain ⟨pes, h1, h2, g1⟩ := hL.els
  have hOW := hO.step hb
  refine ⟨⟨pes, h1.step hb, h2.step hb, g1⟩, ⟨_, hR, ⟨by simp [hO.1], fun i p' r' k1 k2 => ?_⟩, hA7, fun x hx => by rcases List.mem_append.1 hx with hx | hx; exact hAP x hx; rw [List.mem_singleton.1 hx]; exact hAp⟩, hL.en_le, by rw [← hR.1, List.length_append, hO.1]; simpa using hr⟩
  by_cases hi : i < prs.length
  · rw [List.getElem?_append_left hi] at k1
    rw [List.getElem?_append_left (by rw [← hO.1]; exact hi)] at k2
    exact hOW.2 i p' r' k1 k2
  · have hi2 : i = prs.length := by
      have := (List.getElem?_eq_some_iff.1 k1).1
      rw [List.length_append, List.length_singleton] at this
      omega
    subst hi2
    rw [List.getElem?_append_right (Nat.le_refl _), Nat.sub_self] at k1
    rw [List.getElem?_append_right (by rw [hO.1]; exact Nat.le_refl _), hO.1, Nat.sub_self] at k2
    injection k1 with k1
    injection k2 with k2
    subst k1 k2
    exact ⟨hp.1, hp.2.1, hp.2.2, hns.step hb⟩
theorem RLB.newEl {B : Nat} {w W : World} {E R : Option Addr} {en rn : Nat} {L : Ac.LS} (hL : RLB B w E en R rn L) (hb : Below w.heap.size w W) {pes : List PEl} (hO : ElsOK w pes L.els) (hAP : ∀ p ∈ pes, Ab B p.A p.n) {A7 : Option Addr} {n7 : Nat} {p : PEl} {e : Ac.El} (hE : RdE W A7 n7 (pes ++ [p])) (hA7 : Ab B A7 n7) (hAp : Ab B p.A p.n)
    (hp : p.nm = e.nm ∧ p.kd = e.kd ∧ p.n ≤ 4194304) (hns : RdS w p.A p.n e.vs) (hr : L.els.length + 1 ≤ 4194304) : RLB B W A7 n7 R rn ⟨L.els ++ [e], L.rus⟩ := by
  obtain ⟨prs, h1, h2, g1⟩ := hL.rus
  have hOW := hO.step hb
  refine ⟨⟨_, hE, ⟨by simp [hO.1], fun i p' r' k1 k2 => ?_⟩, hA7, fun x hx => by rcases List.mem_append.1 hx with hx | hx; exact hAP x hx; rw [List.mem_singleton.1 hx]; exact hAp⟩, ⟨prs, h1.step hb, h2.step hb, g1⟩, by rw [← hE.1, List.length_append, hO.1]; simpa using hr, hL.rn_le⟩
  by_cases hi : i < pes.length
  · rw [List.getElem?_append_left hi] at k1
    rw [List.getElem?_append_left (by rw [← hO.1]; exact hi)] at k2
    exact hOW.2 i p' r' k1 k2
  · have hi2 : i = pes.length := by
      have := (List.getElem?_eq_some_iff.1 k1).1
      rw [List.length_append, List.length_singleton] at this
      omega
    subst hi2
    rw [List.getElem?_append_right (Nat.le_refl _), Nat.sub_self] at k1
    rw [List.getElem?_append_right (by rw [hO.1]; exact Nat.le_refl _), hO.1, Nat.sub_self] at k2
    injection k1 with k1
    injection k2 with k2
    subst k1 k2
    exact ⟨hp.1, hp.2.1, hp.2.2, hns.step hb⟩
/-- An element's values turned, in a row of the call's own. -/
theorem ecells_set : ∀ (l : List PEl) (k : Nat) (p : PEl) (A : Option Addr) (n c : Nat), l[k]? = some p → ecells (l.set k ⟨p.nm, p.kd, A, n, c⟩) = (ecells l).set (k * 3 + 2) (.slice A n c)
  | [], k, p, A, n, c, h => by simp at h
  | q :: r, 0, p, A, n, c, h => by
    have : q = p := by simpa using h
    subst this; rfl
  | q :: r, k + 1, p, A, n, c, h => by
    rw [List.set_cons_succ, ecells, ecells_set r k p A n c (by simpa using h), show (k + 1) * 3 + 2 = k * 3 + 2 + 1 + 1 + 1 by omega]; rfl
theorem OwnE.stored {w : World} {B g n c : Nat} {l : List PEl} (h : OwnE w B (.slice (some ⟨g, 0, none⟩) n c) l) {k : Nat} {p : PEl} (hp : l[k]? = some p) (A : Option Addr) (m d : Nat) :
    RdE (w.setCell ⟨g, k * 3 + 2, none⟩ (.slice A m d)) (some ⟨g, 0, none⟩) n (l.set k ⟨p.nm, p.kd, A, m, d⟩) := by
  have hr := h.rd
  refine ⟨by rw [List.length_set]; exact hr.1, by rw [ecells_length, List.length_set, hr.1], fun hn => ?_⟩
  obtain ⟨g', o', e, hg, hc⟩ := hr.2.2 hn
  injection e with e
  injection e with e1 e2
  subst e1 e2
  refine ⟨g, 0, rfl, by simp [World.setCell]; exact hg, fun j u hu => ?_⟩
  rw [ecells_set l k p A m d hp] at hu
  rw [Nat.zero_add]
  have hk := lt_of_get? hp
  have h3 := (ecells_get l k hk).2.2
  have hold := hc _ _ h3
  rw [Nat.zero_add] at hold
  by_cases hj : j = k * 3 + 2
  · subst hj
    rw [List.getElem?_set_self (lt_of_get? h3)] at hu
    cases hu
    exact World.cell?_setCell_same w _ _ hold
  · rw [List.getElem?_set_ne (Ne.symm hj)] at hu
    rw [World.cell?_setCell_other _ _ _ _ (fun e => by injection e with _ e; omega)]
    have := hc _ _ hu
    rwa [Nat.zero_add] at this
theorem RLB.oldEl {B : Nat} {w W : World} {E R : Option Addr} {en rn : Nat} {L : Ac.LS} (hL : RLB B w E en R rn L) (hb : Below w.heap.size w W) {pes : List PEl} (hO : ElsOK w pes L.els) (hAP : ∀ p ∈ pes, Ab B p.A p.n) {A7 : Option Addr} {n7 : Nat} {p : PEl} {e : Ac.El} {k : Nat} {A : Option Addr} {m d : Nat} {vs : List (List UInt8)}
    (hp : pes[k]? = some p) (he : L.els[k]? = some e) (hE : RdE W A7 n7 (pes.set k ⟨p.nm, p.kd, A, m, d⟩)) (hA7 : Ab B A7 n7) (hAp : Ab B A m) (hm : m ≤ 4194304) (hns : RdS W A m vs) : RLB B W A7 n7 R rn ⟨L.els.set k ⟨e.nm, e.kd, vs⟩, L.rus⟩ := by
  obtain ⟨prs, h1, h2, g9⟩ := hL.rus
  have hOW := hO.step hb
  obtain ⟨pes0, g1, g2, _⟩ := hL.els
  refine ⟨⟨_, hE, ⟨by simp [hO.1], fun i p' r' k1 k2 => ?_⟩, hA7, fun x hx => by rcases List.mem_or_eq_of_mem_set hx with hx | hx; exact hAP x hx; rw [hx]; exact hAp⟩, ⟨prs, h1.step hb, h2.step hb, g9⟩, by rw [← hE.1, List.length_set, hO.1, ← g2.1, g1.1]; exact hL.en_le, hL.rn_le⟩
  have hk := lt_of_get? hp
  have hk2 := lt_of_get? he
  by_cases hi : i = k
  · subst hi
    rw [List.getElem?_set_self hk] at k1
    rw [List.getElem?_set_self hk2] at k2
    injection k1 with k1
    injection k2 with k2
    subst k1 k2
    obtain ⟨q1, q2, q3, q4⟩ := hO.2 i p e hp he
    exact ⟨q1, q2, hm, hns⟩
  · rw [List.getElem?_set_ne (Ne.symm hi)] at k1
    rw [List.getElem?_set_ne (Ne.symm hi)] at k2
    exact hOW.2 i p' r' k1 k2
/-- What line leaves. -/
def LnOut (B : Nat) (w : World) (o : Option Ac.LS) (x : Ending) (w' : World) : Prop :=
  ∃ E en ec R rn rc, x = .returned (.tuple #[rlV E en ec R rn rc, .bool o.isSome]) ∧ (∀ L', o = some L' → RLB B w' E en R rn L') ∧ Below w.heap.size w w'
end Go.Proofs.YtgkphjbcaidcpaaGreatDoor
