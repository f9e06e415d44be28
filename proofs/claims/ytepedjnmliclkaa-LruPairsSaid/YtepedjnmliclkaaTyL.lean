/- Rows of the call's own: texts and numbers; appends as steps of a walk; rows of other types stay behind a call that turns the pool's or the table's blocks. Conditions: the new length's bytes. -/
import Derived.Test.YtepedjnmliclkaaPoolW
import Derived.Test.YtepedjnmliclkaaApp
set_option linter.unusedVariables false
set_option linter.unusedSimpArgs false
namespace Go.Proofs.Ytepedjnmliclkaa
open Go.RowKit

theorem alloc_below (w : World) (o : Obj) : Below w.heap.size w (w.alloc o) := (Below.refl _ _).alloc (Nat.le_refl _) o
/-- A row of the call's own stays behind a call that only makes memory. -/
theorem row_keep {w w' : World} {cs : Array Value} {t : TypeId} {B : Nat} (h : w.heap[B]? = some (.cells cs t (0, 0))) (hb : Below w.heap.size w w') : w'.heap[B]? = some (.cells cs t (0, 0)) := by
  rw [hb.block B (by exact (Array.getElem?_eq_some_iff.1 h).1)]; exact h
theorem row1 {w : World} {v0 : Value} {t : TypeId} {B : Nat} (h : w.heap[B]? = some (.cells #[v0] t (0, 0))) : w.cell? ⟨B, 0, none⟩ = some v0 ∧ w.frozen? ⟨B, 0, none⟩ = false := by
  refine ⟨?_, by simp only [World.frozen?, h]; rfl⟩
  rw [cell_of_row _ _ _ _ _ _ h]; rfl
theorem own_turn {w w' : World} {B : Nat} {T1 T2 : TypeId} (ht : Turn B T1 T2 w w') {base : Nat} {e : TypeId} {size n : Nat} {v : Value} {xs : List Value} (h : w.ownsRow base e size v n xs) (h1 : e ≠ T1) (h2 : e ≠ T2) : w'.ownsRow base e size v n xs := by
  refine ⟨h.1, ?_⟩
  rcases h.2 with h3 | ⟨g, cap, cur, rfl, hb, hh, r⟩
  · exact .inl h3
  · exact .inr ⟨g, cap, cur, rfl, hb, (ht.rows g _ _ _ hh h1 h2).trans hh, r⟩
theorem own_step {w w' : World} {base : Nat} {e : TypeId} {size n : Nat} {v : Value} {xs : List Value} (h : w.ownsRow base e size v n xs) (hb : Below w.heap.size w w') : w'.ownsRow base e size v n xs :=
  h.kept (row := none) ⟨hb.os, hb.tape, hb.output, hb.size, fun k hk _ => hb.block k hk⟩ (by cases v.ownBlock <;> simp)
theorem row_turn {w w' : World} {B : Nat} {T1 T2 : TypeId} (ht : Turn B T1 T2 w w') {b : Nat} {cs : Array Value} {t : TypeId} (h : w.heap[b]? = some (.cells cs t (0, 0))) (h1 : t ≠ T1) (h2 : t ≠ T2) : w'.heap[b]? = some (.cells cs t (0, 0)) :=
  (ht.rows b _ _ _ h h1 h2).trans h
theorem str_info : (Try.prog.info? 9).map (fun i => (i.zero, i.size, i.bytes)) = some (some (.string ⟨#[]⟩), 1, 16) := by kernel_rfl
theorem int_info : (Try.prog.info? 3).map (fun i => (i.zero, i.size, i.bytes)) = some (some (.int .i64 0), 1, 8) := by kernel_rfl
def OwnS (w : World) (B : Nat) (v : Value) (l : List (List UInt8)) : Prop := w.ownsRow B 9 1 v l.length (strs l)
def intV (i : Int) : Value := .int .i64 i
def ints (l : List Int) : List Value := l.map intV
theorem ints_get (l : List Int) (k : Nat) (h : k < l.length) : (ints l)[k]? = some (intV l[k]) := by simp [ints, h]
theorem ints_one (l : List Int) : ∀ u ∈ ints l, u.oneCell' = true := by
  intro u hu; simp only [ints, List.mem_map] at hu; obtain ⟨s, _, rfl⟩ := hu; rfl
def OwnI (w : World) (B : Nat) (v : Value) (l : List Int) : Prop := w.ownsRow B 3 1 v l.length (ints l)
def RdI (w : World) (A : Option Addr) (n : Nat) (l : List Int) : Prop := l.length = n ∧ Rd w 1 A n (ints l)
theorem RdI.step {w w' : World} {A : Option Addr} {n : Nat} {l : List Int} (h : RdI w A n l) (hb : Below w.heap.size w w') : RdI w' A n l := ⟨h.1, h.2.step hb⟩
theorem RdI.nil (w : World) (A : Option Addr) : RdI w A 0 [] := ⟨rfl, Rd.nil w 1 A⟩
theorem RdI.at_ {w : World} {n : Nat} {A : Option Addr} {l : List Int} (h : RdI w A n l) {k : Nat} (hk : k < n) : ∃ g o s, A = some ⟨g, o, none⟩ ∧ g < w.heap.size ∧ Hid (l[k]? = some s) ∧ w.cell? ⟨g, o + k, none⟩ = some (.int .i64 s) := by
  obtain ⟨g, o, e, hg, hc⟩ := h.2.2 (by omega)
  have hk' : k < l.length := by rw [h.1]; exact hk
  exact ⟨g, o, l[k], e, hg, Lib.hid (List.getElem?_eq_getElem hk'), hc k _ (ints_get l k hk')⟩
theorem OwnS.rd {w : World} {B n c : Nat} {A : Option Addr} {l : List (List UInt8)} (h : OwnS w B (.slice A n c) l) : RdS w A n l := by
  have h' : w.ownsRow B 9 1 (.slice A n c) l.length (strs l) := h
  obtain ⟨A', c', e⟩ := own_slice h'
  injection e with e1 e2 e3
  subst e1 e2
  exact ⟨rfl, Rd.of_own h'⟩
theorem OwnI.rd {w : World} {B n c : Nat} {A : Option Addr} {l : List Int} (h : OwnI w B (.slice A n c) l) : RdI w A n l := by
  have h' : w.ownsRow B 3 1 (.slice A n c) l.length (ints l) := h
  obtain ⟨A', c', e⟩ := own_slice h'
  injection e with e1 e2 e3
  subst e1 e2
  exact ⟨rfl, Rd.of_own h'⟩
theorem OwnI.form {w : World} {B : Nat} {v : Value} {l : List Int} (h : OwnI w B v l) : ∃ A c, v = .slice A l.length c := own_slice h
theorem OwnS.form {w : World} {B : Nat} {v : Value} {l : List (List UInt8)} (h : OwnS w B v l) : ∃ A c, v = .slice A l.length c := own_slice h
theorem OwnS.nil (w : World) (B : Nat) : OwnS w B (.slice none 0 0) [] := World.ownsRow_nil w B _ 1
theorem OwnI.nil (w : World) (B : Nat) : OwnI w B (.slice none 0 0) [] := World.ownsRow_nil w B _ 1
theorem OwnS.made (w : World) : OwnS (w.alloc (.cells #[] 9)) w.heap.size (.slice (some ⟨w.heap.size, 0, none⟩) 0 0) [] := own_made0 w _ 1 #[] rfl
theorem OwnI.made (w : World) : OwnI (w.alloc (.cells #[] 3)) w.heap.size (.slice (some ⟨w.heap.size, 0, none⟩) 0 0) [] := own_made0 w _ 1 #[] rfl
theorem OwnS.step {w w' : World} {B : Nat} {v : Value} {l : List (List UInt8)} (h : OwnS w B v l) (hb : Below w.heap.size w w') : OwnS w' B v l := own_step h hb
theorem OwnI.step {w w' : World} {B : Nat} {v : Value} {l : List Int} (h : OwnI w B v l) (hb : Below w.heap.size w w') : OwnI w' B v l := own_step h hb
theorem OwnS.mono {w : World} {B B' : Nat} {v : Value} {l : List (List UInt8)} (h : OwnS w B v l) (hb : B' ≤ B) : OwnS w B' v l := own_mono h hb
theorem OwnI.mono {w : World} {B B' : Nat} {v : Value} {l : List Int} (h : OwnI w B v l) (hb : B' ≤ B) : OwnI w B' v l := own_mono h hb
theorem OwnI.turnP {w w' : World} {B C : Nat} {v : Value} {l : List Int} (h : OwnI w C v l) (ht : Turn B 115 117 w w') : OwnI w' C v l := own_turn ht h (by decide) (by decide)
section
variable {w : World} {ops : Array Oper} {rest : List Oper} {o : Oper} {a : Act} {Q : Exit → Act → World → Prop}
theorem wp_appS (hgd : o.guard = none) (s x : Operand) (ho : o.op = .call { callee := .builtin .append, args := #[s, x], argTypes := #[36, 36] })
    (base : Nat) (v : Value) (l : List (List UInt8)) (hs : a.eval s = v) (hown : OwnS w base v l) (A : Option Addr) (m c : Nat) (news : List (List UInt8)) (hx : a.eval x = .slice A m c) (hr : RdS w A m news)
    (hbytes : (l.length + m) * 16 ≤ 140737488355328) (hbase : base ≤ w.heap.size)
    (h : ∀ A' n' c' w', OwnS w' base (.slice A' n' c') (l ++ news) → Below base w w' → w.grownBy w' v.ownBlock → Hid (n' = l.length + m) → wpList Try.prog ops Q rest (a.put o.dst (.slice A' n' c')) w') : wpList Try.prog ops Q (o :: rest) a w := by
  obtain ⟨i0, hi, hz0, hz1, hz2⟩ := info_parts str_info
  have h63 : l.length + m ≤ maxLen := by unfold maxLen; omega
  refine wpList_append_any w hgd s x 36 ho base 9 i0 _ 1 16 Try.underlying36 hi hz0 hz1 hz2 rfl (by omega) v l.length (strs l) hs hown A m c (strs news) hx hr.2 (strs_one _) h63 hbytes hbase fun v' w' h2 h3 _ => ?_
  obtain ⟨A', c', rfl⟩ := own_slice h2
  refine h A' _ c' w' ?_ ((Below.refl base w).grown h3 hbase fun k hk => (hown.lt k hk).1) h3 (Lib.hid rfl)
  unfold OwnS
  rw [List.length_append, hr.1, show strs (l ++ news) = strs l ++ strs news from by simp [strs]]
  exact h2
theorem wp_appI (hgd : o.guard = none) (s x : Operand) (ho : o.op = .call { callee := .builtin .append, args := #[s, x], argTypes := #[68, 68] })
    (base : Nat) (v : Value) (l : List Int) (hs : a.eval s = v) (hown : OwnI w base v l) (A : Option Addr) (m c : Nat) (news : List Int) (hx : a.eval x = .slice A m c) (hr : RdI w A m news)
    (hbytes : (l.length + m) * 8 ≤ 140737488355328) (hbase : base ≤ w.heap.size)
    (h : ∀ A' n' c' w', OwnI w' base (.slice A' n' c') (l ++ news) → Below base w w' → w.grownBy w' v.ownBlock → Hid (n' = l.length + m) → wpList Try.prog ops Q rest (a.put o.dst (.slice A' n' c')) w') : wpList Try.prog ops Q (o :: rest) a w := by
  obtain ⟨i0, hi, hz0, hz1, hz2⟩ := info_parts int_info
  have h63 : l.length + m ≤ maxLen := by unfold maxLen; omega
  refine wpList_append_any w hgd s x 68 ho base 3 i0 _ 1 8 Try.underlying68 hi hz0 hz1 hz2 rfl (by omega) v l.length (ints l) hs hown A m c (ints news) hx hr.2 (ints_one _) h63 hbytes hbase fun v' w' h2 h3 _ => ?_
  obtain ⟨A', c', rfl⟩ := own_slice h2
  refine h A' _ c' w' ?_ ((Below.refl base w).grown h3 hbase fun k hk => (hown.lt k hk).1) h3 (Lib.hid rfl)
  unfold OwnI
  rw [List.length_append, hr.1, show ints (l ++ news) = ints l ++ ints news from by simp [ints]]
  exact h2
end
theorem one_rdI (w : World) (i : Int) (t : TypeId) : RdI (w.alloc (.cells #[.int .i64 i] t)) (some ⟨w.heap.size, 0, none⟩) 1 [i] := ⟨rfl, cell1_rd w _ t⟩
theorem one_rdS (w : World) (s : List UInt8) (t : TypeId) : RdS (w.alloc (.cells #[.string (bs s)] t)) (some ⟨w.heap.size, 0, none⟩) 1 [s] := ⟨rfl, cell1_rd w _ t⟩
/-- A ring stays behind an append onto a row of another type. -/
theorem Ring.grown {w w' : World} {hb : Nat} {HT : TypeId} {pre : List Value} {np : Nat} {T : TypeId} {L : List Nd} (R : Ring w hb HT pre np T L) {base : Nat} {e : TypeId} {size n : Nat} {v : Value} {xs : List Value} (ho : w.ownsRow base e size v n xs) (hg : w.grownBy w' v.ownBlock) (h1 : e ≠ T) (h2 : e ≠ HT) : Ring w' hb HT pre np T L := by
  have hne : ∀ (b : Nat) (cs : Array Value) (t : TypeId), w.heap[b]? = some (.cells cs t (0, 0)) → t ≠ e → w'.heap[b]? = w.heap[b]? := by
    intro b cs t hh ht
    refine hg.block b (Array.getElem?_eq_some_iff.1 hh).1 ?_
    rcases ho.2 with ⟨rfl, _⟩ | ⟨g, cap, cur, rfl, _, hh2, _⟩
    · simp [Value.ownBlock]
    · intro he
      have : g = b := by simpa [Value.ownBlock] using he.symm
      subst this
      rw [hh2] at hh
      injection hh with hh; injection hh with _ hh
      exact ht hh.symm
  exact R.keep (hne _ _ _ R.head (Ne.symm h2)) fun x hx => by
    obtain ⟨i, hi, rfl⟩ := List.getElem_of_mem hx
    exact hne _ _ _ (R.blk i _ (List.getElem?_eq_getElem hi)) (Ne.symm h1)
theorem Turn.grown {B : Nat} {T1 T2 : TypeId} {a w w' : World} (h : Turn B T1 T2 a w) (hb : Below w.heap.size w w') (hB : B ≤ a.heap.size) : Turn B T1 T2 a w' := by
  refine ⟨h.below.trans (hb.mono (Nat.le_trans hB h.below.size)), fun b cs t z hh h1 h2 => ?_⟩
  have e := h.rows b cs t z hh h1 h2
  rw [hb.block b (Array.getElem?_eq_some_iff.1 (e.trans hh)).1, e]
end Go.Proofs.Ytepedjnmliclkaa
