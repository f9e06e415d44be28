/- Rows of items of three cells (a text, two numbers), of a type that is given: how they read, rows of the call's own, append. Conditions: the new length's bytes. -/
import Derived.Test.YtepedjnmliclkaaTyL
import Derived.Laws.OwnMore
set_option linter.unusedVariables false
set_option linter.unusedSimpArgs false
namespace Go.Proofs.Ytepedjnmliclkaa
open Go.RowKit

def itC : List Cn → List Value
  | [] => []
  | f :: r => .string (bs f.o) :: .int .i64 f.id :: .int .i64 f.wh :: itC r
theorem itC_length (l : List Cn) : (itC l).length = l.length * 3 := by
  induction l with
  | nil => rfl
  | cons f r ih => simp [itC, ih]; omega
theorem itC_append (l m : List Cn) : itC (l ++ m) = itC l ++ itC m := by
  induction l with
  | nil => rfl
  | cons f r ih => simp [itC, ih]
theorem itC_one (l : List Cn) : ∀ u ∈ itC l, u.oneCell' = true := by
  induction l with
  | nil => simp [itC]
  | cons f r ih =>
    intro u hu
    simp only [itC, List.mem_cons] at hu
    rcases hu with rfl | rfl | rfl | hu
    · rfl
    · rfl
    · rfl
    · exact ih u hu
theorem itC_get (l : List Cn) (k : Nat) (h : k < l.length) : (itC l)[k * 3]? = some (.string (bs l[k].o)) ∧ (itC l)[k * 3 + 1]? = some (.int .i64 l[k].id) ∧ (itC l)[k * 3 + 2]? = some (.int .i64 l[k].wh) := by
  induction l generalizing k with
  | nil => simp at h
  | cons f r ih =>
    cases k with
    | zero => exact ⟨rfl, rfl, rfl⟩
    | succ k =>
      obtain ⟨h1, h2, h3⟩ := ih k (by simpa using h)
      refine ⟨?_, ?_, ?_⟩
      · rw [show (k + 1) * 3 = k * 3 + 1 + 1 + 1 by omega]; simpa [itC] using h1
      · rw [show (k + 1) * 3 + 1 = (k * 3 + 1) + 1 + 1 + 1 by omega]; simpa [itC] using h2
      · rw [show (k + 1) * 3 + 2 = (k * 3 + 2) + 1 + 1 + 1 by omega]; simpa [itC] using h3
def RdT (w : World) (A : Option Addr) (n : Nat) (l : List Cn) : Prop := l.length = n ∧ Rd w 3 A n (itC l)
theorem RdT.step {w w' : World} {A : Option Addr} {n : Nat} {l : List Cn} (h : RdT w A n l) (hb : Below w.heap.size w w') : RdT w' A n l := ⟨h.1, h.2.step hb⟩
theorem RdT.nil (w : World) (A : Option Addr) : RdT w A 0 [] := ⟨rfl, Rd.nil w 3 A⟩
theorem RdT.at_ {w : World} {A : Option Addr} {n : Nat} {l : List Cn} (h : RdT w A n l) {k : Nat} (hk : k < n) : ∃ g o x, A = some ⟨g, o, none⟩ ∧ g < w.heap.size ∧ Hid (l[k]? = some x) ∧
    w.cell? ⟨g, o + k * 3, none⟩ = some (.string (bs x.o)) ∧ w.cell? ⟨g, o + k * 3 + 1, none⟩ = some (.int .i64 x.id) ∧ w.cell? ⟨g, o + k * 3 + 2, none⟩ = some (.int .i64 x.wh) := by
  obtain ⟨g, o, e, hg, hc⟩ := h.2.2 (by omega)
  have hk' : k < l.length := by rw [h.1]; exact hk
  obtain ⟨h1, h2, h3⟩ := itC_get l k hk'
  refine ⟨g, o, l[k], e, hg, Lib.hid (List.getElem?_eq_getElem hk'), hc _ _ h1, ?_, ?_⟩
  · rw [Nat.add_assoc]; exact hc _ _ h2
  · rw [Nat.add_assoc]; exact hc _ _ h3
def OwnT (T : TypeId) (w : World) (B : Nat) (v : Value) (l : List Cn) : Prop := w.ownsRow B T 3 v l.length (itC l)
theorem OwnT.rd {T : TypeId} {w : World} {B n c : Nat} {A : Option Addr} {l : List Cn} (h : OwnT T w B (.slice A n c) l) : RdT w A n l := by
  have h' : w.ownsRow B T 3 (.slice A n c) l.length (itC l) := h
  obtain ⟨A', c', e⟩ := own_slice h'
  injection e with e1 e2 e3
  subst e1 e2
  exact ⟨rfl, Rd.of_own h'⟩
theorem OwnT.nil (T : TypeId) (w : World) (B : Nat) : OwnT T w B (.slice none 0 0) [] := World.ownsRow_nil w B _ 3
theorem OwnT.made (T : TypeId) (w : World) : OwnT T (w.alloc (.cells #[] T)) w.heap.size (.slice (some ⟨w.heap.size, 0, none⟩) 0 0) [] := own_made0 w _ 3 #[] rfl
theorem OwnT.step {T : TypeId} {w w' : World} {B : Nat} {v : Value} {l : List Cn} (h : OwnT T w B v l) (hb : Below w.heap.size w w') : OwnT T w' B v l := own_step h hb
theorem OwnT.mono {T : TypeId} {w : World} {B B' : Nat} {v : Value} {l : List Cn} (h : OwnT T w B v l) (hb : B' ≤ B) : OwnT T w B' v l := own_mono h hb
theorem OwnT.one (T : TypeId) (w : World) (x : Cn) : OwnT T (w.alloc (.cells #[.string (bs x.o), .int .i64 x.id, .int .i64 x.wh] T)) w.heap.size (.slice (some ⟨w.heap.size, 0, none⟩) 1 1) [x] :=
  World.ownsRow_lit (size := 3) w #[.string (bs x.o), .int .i64 x.id, .int .i64 x.wh] 1 (Nat.le_refl _) (by decide) rfl
theorem one_rdT (w : World) (x : Cn) (T : TypeId) : RdT (w.alloc (.cells #[.string (bs x.o), .int .i64 x.id, .int .i64 x.wh] T)) (some ⟨w.heap.size, 0, none⟩) 1 [x] := (OwnT.one T w x).rd
section
variable {w : World} {ops : Array Oper} {rest : List Oper} {o : Oper} {a : Act} {Q : Exit → Act → World → Prop}
theorem wp_appT {T S : TypeId} (hS : Try.prog.underlying S = some (.slice T)) (hT : (Try.prog.info? T).map (fun i => (i.zero, i.size, i.bytes)) = some (some (.agg #[.string ⟨#[]⟩, .int .i64 0, .int .i64 0]), 3, 32))
    (hgd : o.guard = none) (s x : Operand) (ho : o.op = .call { callee := .builtin .append, args := #[s, x], argTypes := #[S, S] })
    (base : Nat) (v : Value) (l : List Cn) (hs : a.eval s = v) (hown : OwnT T w base v l) (A : Option Addr) (m c : Nat) (news : List Cn) (hx : a.eval x = .slice A m c) (hr : RdT w A m news)
    (hbytes : (l.length + m) * 32 ≤ 140737488355328) (hbase : base ≤ w.heap.size)
    (h : ∀ A' n' c' w', OwnT T w' base (.slice A' n' c') (l ++ news) → Below base w w' → w.grownBy w' v.ownBlock → Hid (n' = l.length + m) → wpList Try.prog ops Q rest (a.put o.dst (.slice A' n' c')) w') : wpList Try.prog ops Q (o :: rest) a w := by
  obtain ⟨i0, hi, hz0, hz1, hz2⟩ := info_parts hT
  have h63 : l.length + m ≤ maxLen := by unfold maxLen; omega
  refine wpList_append_any w hgd s x S ho base T i0 _ 3 32 hS hi hz0 hz1 hz2 rfl (by omega) v l.length (itC l) hs hown A m c (itC news) hx hr.2 (itC_one _) h63 hbytes hbase fun v' w' h2 h3 _ => ?_
  obtain ⟨A', c', rfl⟩ := own_slice h2
  refine h A' _ c' w' ?_ ((Below.refl base w).grown h3 hbase fun k hk => (hown.lt k hk).1) h3 (Lib.hid rfl)
  unfold OwnT
  rw [List.length_append, hr.1, itC_append]
  exact h2
end
theorem it14_info : (Try.prog.info? 35).map (fun i => (i.zero, i.size, i.bytes)) = some (some (.agg #[.string ⟨#[]⟩, .int .i64 0, .int .i64 0]), 3, 32) := by kernel_rfl
theorem it23_info : (Try.prog.info? 128).map (fun i => (i.zero, i.size, i.bytes)) = some (some (.agg #[.string ⟨#[]⟩, .int .i64 0, .int .i64 0]), 3, 32) := by kernel_rfl
end Go.Proofs.Ytepedjnmliclkaa
