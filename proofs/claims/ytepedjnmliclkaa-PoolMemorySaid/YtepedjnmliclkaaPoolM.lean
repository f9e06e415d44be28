/- Plain lists: what a row of Puts leaves. No program. -/
import Derived.Test.YtepedjnmliclkaaPoolL
set_option linter.unusedVariables false
set_option linter.unusedSimpArgs false
namespace Go.Proofs.Ytepedjnmliclkaa
open Go.RowKit

theorem PoolX.drew {w : World} {B pb : Nat} {most each idle : Int} {xs : List Cn} (h : PoolX w B pb most each idle xs) : PoolX w.drew B pb most each idle xs := by
  obtain ⟨G, h1, h2⟩ := h
  exact ⟨G, h1, h2.drew⟩
theorem below_of_drew {B : Nat} {a b c : World} (h : Below B a b) (k : Below B b.drew c) : Below B a c := h.drew.trans k
def putsL (m e : Int) (sc : List Op4) : List Cn := sc.foldl (fun xs o => (putL m e o.k o.a o.b xs).1) []
theorem putsL_snoc {m e : Int} {sc : List Op4} {k : Nat} {x : Op4} (h : sc[k]? = some x) : putsL m e (sc.take (k + 1)) = (putL m e x.k x.a x.b (putsL m e (sc.take k))).1 := by
  unfold putsL
  rw [take_snoc? h, List.foldl_append]; rfl
theorem putsL_ok (m e : Int) (sc : List Op4) (k : Nat) : IdsOK (putsL m e (sc.take k)) ∧ (putsL m e (sc.take k)).length ≤ k := by
  induction k with
  | zero => simp [putsL, IdsOK]
  | succ k ih =>
    by_cases hk : k < sc.length
    · rw [putsL_snoc (List.getElem?_eq_getElem hk)]
      have := (putL_len m e sc[k].k sc[k].a sc[k].b (putsL m e (sc.take k))).1
      exact ⟨ih.1.putL .., by omega⟩
    · rw [List.take_of_length_le (by omega)] at ih ⊢
      exact ⟨ih.1, by omega⟩
theorem mem_dropL {id : Int} {xs : List Cn} {x : Cn} (h : x ∈ dropL id xs) : x ∈ xs ∧ x.id ≠ id := by
  unfold dropL at h
  have := List.mem_filter.1 h
  exact ⟨this.1, by simpa using this.2⟩
theorem mem_putL {m e : Int} {o : List UInt8} {id now : Int} {xs : List Cn} {x : Cn} (h : x ∈ (putL m e o id now xs).1) : (x ∈ xs ∧ x.id ≠ id) ∨ x = ⟨o, id, now⟩ := by
  have h1 : x ∈ put1 o id now xs → (x ∈ xs ∧ x.id ≠ id) ∨ x = ⟨o, id, now⟩ := by
    intro hx
    unfold put1 at hx
    rcases List.mem_append.1 hx with h | h
    · exact .inl (mem_dropL h)
    · exact .inr (by simpa using h)
  have h2 : ∀ x1, x ∈ (put2 e o x1).1 → x ∈ x1 := by
    intro x1 hx
    unfold put2 at hx
    split at hx
    · split at hx
      · exact (mem_dropL hx).1
      · exact hx
    · exact hx
  have h3 : ∀ r, x ∈ (put3 m r).1 → x ∈ r.1 := by
    intro r hx
    unfold put3 at hx
    split at hx
    · split at hx
      · rename_i a t e; rw [e]; exact List.mem_cons_of_mem _ hx
      · exact hx
    · exact hx
  exact h1 (h2 _ (h3 _ h))
/-- The last step that names this id. -/
def lastOp (sc : List Op4) (id : Int) : Option Op4 := sc.reverse.find? fun o => o.a == id
theorem lastOp_snoc (sc : List Op4) (x : Op4) (id : Int) : lastOp (sc ++ [x]) id = if x.a = id then some x else lastOp sc id := by
  unfold lastOp
  rw [List.reverse_append]
  simp only [List.reverse_cons, List.reverse_nil, List.nil_append, List.singleton_append, List.find?_cons]
  by_cases h : x.a = id
  · simp [h]
  · rw [if_neg h]
    have : (x.a == id) = false := by simp [h]
    rw [this]
/-- What is in the pool was put last for its origin, at its second. -/
theorem putsL_last (m e : Int) (sc : List Op4) (k : Nat) : ∀ x ∈ putsL m e (sc.take k), ∃ o, lastOp (sc.take k) x.id = some o ∧ o.k = x.o ∧ o.b = x.wh := by
  induction k with
  | zero => simp [putsL]
  | succ k ih =>
    by_cases hk : k < sc.length
    · have hx := List.getElem?_eq_getElem hk
      rw [putsL_snoc hx]
      intro x hm
      rw [take_snoc? hx, lastOp_snoc]
      rcases mem_putL hm with ⟨h1, h2⟩ | rfl
      · rw [if_neg (fun h => h2 h.symm)]
        exact ih x h1
      · exact ⟨_, if_pos rfl, rfl, rfl⟩
    · rw [List.take_of_length_le (by omega)] at ih ⊢
      exact ih
theorem lastL_mem {p : Cn → Bool} {xs : List Cn} {x : Cn} (h : lastL p xs = some x) : x ∈ xs ∧ p x = true := by
  unfold lastL at h
  exact ⟨by simpa using List.mem_of_find?_eq_some h, by simpa using List.find?_some h⟩
theorem lastOp_at {sc : List Op4} {id : Int} {o : Op4} (h : lastOp sc id = some o) : ∃ j : Nat, sc[j]? = some o ∧ o.a = id ∧ ∀ (i : Nat) (y : Op4), j < i → sc[i]? = some y → y.a ≠ id := by
  unfold lastOp at h
  obtain ⟨hp, j, hj, e, hb⟩ := List.find?_eq_some_iff_getElem.1 h
  simp at hj
  refine ⟨sc.length - 1 - j, ?_, by simpa using hp, fun i y hi hy => ?_⟩
  · rw [← e, List.getElem_reverse]
    exact List.getElem?_eq_getElem _
  · obtain ⟨hil, rfl⟩ := List.getElem?_eq_some_iff.1 hy
    have := hb (sc.length - 1 - i) (by omega)
    rw [List.getElem_reverse] at this
    simp only [show sc.length - 1 - (sc.length - 1 - i) = i by omega] at this
    simpa using this
end Go.Proofs.Ytepedjnmliclkaa
