/- The appends of texts and of fields at this program's types, as steps of a walk. Conditions: the new length's bytes. -/
import Derived.Test.YtfhkgbimnfjfhaaDoorChecked
import Derived.Test.YtfhkgbimnfjfhaaDoorStr
import Derived.Test.YtfhkgbimnfjfhaaDoorMem
import Derived.Test.YtfhkgbimnfjfhaaDoorApp
set_option linter.unusedVariables false
set_option linter.unusedSimpArgs false
namespace Go.Proofs.YtfhkgbimnfjfhaaDoor
open Go.RowKit

theorem fld_info : (Tryd.prog.info? 63).map (fun i => (i.zero, i.size, i.bytes)) = some (some (.agg #[.string ⟨#[]⟩, .string ⟨#[]⟩]), 2, 32) := by kernel_rfl
theorem str_info : (Tryd.prog.info? 9).map (fun i => (i.zero, i.size, i.bytes)) = some (some (.string ⟨#[]⟩), 1, 16) := by kernel_rfl
/-- A slice of the call's own that holds these texts; these fields. -/
def OwnS (w : World) (B : Nat) (v : Value) (l : List (List UInt8)) : Prop := w.ownsRow B 9 1 v l.length (strs l)
def OwnF (w : World) (B : Nat) (v : Value) (l : List Fld) : Prop := w.ownsRow B 63 2 v l.length (fcells l)
theorem OwnS.rd {w : World} {B n c : Nat} {A : Option Addr} {l : List (List UInt8)} (h : OwnS w B (.slice A n c) l) : RdS w A n l := by
  have h' : w.ownsRow B 9 1 (.slice A n c) l.length (strs l) := h
  obtain ⟨A', c', e⟩ := own_slice h'
  injection e with e1 e2 e3
  subst e1 e2
  exact ⟨rfl, Rd.of_own h'⟩
theorem OwnF.rd {w : World} {B n c : Nat} {A : Option Addr} {l : List Fld} (h : OwnF w B (.slice A n c) l) : RdF w A n l := by
  have h' : w.ownsRow B 63 2 (.slice A n c) l.length (fcells l) := h
  obtain ⟨A', c', e⟩ := own_slice h'
  injection e with e1 e2 e3
  subst e1 e2
  exact ⟨rfl, Rd.of_own h'⟩
theorem OwnS.nil (w : World) (B : Nat) : OwnS w B (.slice none 0 0) [] := World.ownsRow_nil w B _ 1
theorem OwnF.nil (w : World) (B : Nat) : OwnF w B (.slice none 0 0) [] := World.ownsRow_nil w B _ 2
theorem OwnS.made (w : World) : OwnS (w.alloc (.cells #[] 9)) w.heap.size (.slice (some ⟨w.heap.size, 0, none⟩) 0 0) [] := own_made0 w _ 1 #[] rfl
theorem OwnF.made (w : World) : OwnF (w.alloc (.cells #[] 63)) w.heap.size (.slice (some ⟨w.heap.size, 0, none⟩) 0 0) [] := own_made0 w _ 2 #[] rfl
/-- An owned row stays where what is below the heap's end stands. -/
theorem own_step {w w' : World} {base : Nat} {e : TypeId} {size n : Nat} {v : Value} {xs : List Value} (h : w.ownsRow base e size v n xs) (hb : Below w.heap.size w w') : w'.ownsRow base e size v n xs :=
  h.kept (row := none) ⟨hb.os, hb.tape, hb.output, hb.size, fun k hk _ => hb.block k hk⟩ (by cases v.ownBlock <;> simp)
theorem OwnS.step {w w' : World} {B : Nat} {v : Value} {l : List (List UInt8)} (h : OwnS w B v l) (hb : Below w.heap.size w w') : OwnS w' B v l := own_step h hb
theorem OwnF.step {w w' : World} {B : Nat} {v : Value} {l : List Fld} (h : OwnF w B v l) (hb : Below w.heap.size w w') : OwnF w' B v l := own_step h hb
theorem OwnS.mono {w : World} {B B' : Nat} {v : Value} {l : List (List UInt8)} (h : OwnS w B v l) (hb : B' ≤ B) : OwnS w B' v l := own_mono h hb
theorem OwnF.mono {w : World} {B B' : Nat} {v : Value} {l : List Fld} (h : OwnF w B v l) (hb : B' ≤ B) : OwnF w B' v l := own_mono h hb
theorem alloc_below (w : World) (o : Obj) : Below w.heap.size w (w.alloc o) := (Below.refl _ _).alloc (Nat.le_refl _) o
section
variable {w : World} {ops : Array Oper} {rest : List Oper} {o : Oper} {a : Act} {Q : Exit → Act → World → Prop}
/-- texts onto texts -/
theorem wp_appS (hgd : o.guard = none) (s x : Operand) (ho : o.op = .call { callee := .builtin .append, args := #[s, x], argTypes := #[39, 39] })
    (base : Nat) (v : Value) (l : List (List UInt8)) (hs : a.eval s = v) (hown : OwnS w base v l) (A : Option Addr) (m c : Nat) (news : List (List UInt8)) (hx : a.eval x = .slice A m c) (hr : RdS w A m news)
    (hbytes : (l.length + m) * 16 ≤ 140737488355328) (hbase : base ≤ w.heap.size)
    (h : ∀ A' n' c' w', OwnS w' base (.slice A' n' c') (l ++ news) → Below base w w' → Hid (n' = l.length + m) → wpList Tryd.prog ops Q rest (a.put o.dst (.slice A' n' c')) w') : wpList Tryd.prog ops Q (o :: rest) a w := by
  obtain ⟨i0, hi, hz0, hz1, hz2⟩ := info_parts str_info
  refine wpList_app Tryd.underlying39 hi hz0 hz1 hz2 rfl (by omega) (by omega) hgd s x ho base v l.length (strs l) hs hown A m c (strs news) hx hr.2 (strs_one _) hbytes hbase fun A' c' w' h1 h2 => h A' _ c' w' ?_ h2 (Lib.hid rfl)
  unfold OwnS
  rw [List.length_append, hr.1, show strs (l ++ news) = strs l ++ strs news from by simp [strs]]
  exact h1
/-- fields onto fields -/
theorem wp_appF (hgd : o.guard = none) (s x : Operand) (ho : o.op = .call { callee := .builtin .append, args := #[s, x], argTypes := #[22, 22] })
    (base : Nat) (v : Value) (l : List Fld) (hs : a.eval s = v) (hown : OwnF w base v l) (A : Option Addr) (m c : Nat) (news : List Fld) (hx : a.eval x = .slice A m c) (hr : RdF w A m news)
    (hbytes : (l.length + m) * 32 ≤ 140737488355328) (hbase : base ≤ w.heap.size)
    (h : ∀ A' n' c' w', OwnF w' base (.slice A' n' c') (l ++ news) → Below base w w' → Hid (n' = l.length + m) → wpList Tryd.prog ops Q rest (a.put o.dst (.slice A' n' c')) w') : wpList Tryd.prog ops Q (o :: rest) a w := by
  obtain ⟨i0, hi, hz0, hz1, hz2⟩ := info_parts fld_info
  refine wpList_app Tryd.underlying22 hi hz0 hz1 hz2 rfl (by omega) (by omega) hgd s x ho base v l.length (fcells l) hs hown A m c (fcells news) hx hr.2 (fcells_one _) hbytes hbase fun A' c' w' h1 h2 => h A' _ c' w' ?_ h2 (Lib.hid rfl)
  unfold OwnF
  rw [List.length_append, hr.1, fcells_append]
  exact h1
end
theorem one_rdS (w : World) (s : List UInt8) (t : TypeId) : RdS (w.alloc (.cells #[.string (bs s)] t)) (some ⟨w.heap.size, 0, none⟩) 1 [s] := ⟨rfl, cell1_rd w _ t⟩
theorem one_rdF (w : World) (n v : List UInt8) (t : TypeId) : RdF (w.alloc (.cells #[.string (bs n), .string (bs v)] t)) (some ⟨w.heap.size, 0, none⟩) 1 [(n, v)] := ⟨rfl, cell2_rd w _ _ t⟩
theorem one_rdS' (w : World) (s : List UInt8) (t : TypeId) (k : Nat) (hk : k = w.heap.size) : RdS (w.alloc (.cells #[.string (bs s)] t)) (some ⟨k, 0, none⟩) 1 [s] := by subst hk; exact one_rdS w s t
theorem one_rdF' (w : World) (n v : List UInt8) (t : TypeId) (k : Nat) (hk : k = w.heap.size) : RdF (w.alloc (.cells #[.string (bs n), .string (bs v)] t)) (some ⟨k, 0, none⟩) 1 [(n, v)] := by subst hk; exact one_rdF w n v t
theorem rdF_lit (w : World) (l : List Fld) (t : TypeId) (cs : Array Value) (k : Nat) (hk : k = w.heap.size) (h : cs = (fcells l).toArray) : RdF (w.alloc (.cells cs t)) (some ⟨k, 0, none⟩) l.length l := by
  subst h hk
  refine ⟨rfl, by rw [fcells_length], fun _ => ⟨w.heap.size, 0, rfl, by simp, fun j u hu => ?_⟩⟩
  rw [Nat.zero_add, cell_of_row _ _ _ _ t (0, 0) (heap_alloc_new w _)]
  simpa using hu
/-- What a call that returns fields (texts) leaves. -/
def FldsOut (w : World) (l : List Fld) (e : Ending) (w' : World) : Prop := ∃ A n c, e = .returned (.slice A n c) ∧ RdF w' A n l ∧ Below w.heap.size w w'
def StrsOut (w : World) (l : List (List UInt8)) (e : Ending) (w' : World) : Prop := ∃ A n c, e = .returned (.slice A n c) ∧ RdS w' A n l ∧ Below w.heap.size w w'
end Go.Proofs.YtfhkgbimnfjfhaaDoor
