/- fields.is and the closures of fields.Without; slices.IndexFunc and ContainsFunc at texts, whatever predicate. Conditions: lengths at most 2^47. -/
import Derived.Test.YtocgnjkikgcjdaaDoorChecked
import Derived.Test.YtocgnjkikgcjdaaDoorStr
import Derived.Test.YtocgnjkikgcjdaaDoorMem
import Derived.Test.YtocgnjkikgcjdaaDoorApp
import Derived.Test.YtocgnjkikgcjdaaDoorTy
import Derived.Test.YtocgnjkikgcjdaaDoorByt
import Derived.Test.YtocgnjkikgcjdaaDoorFold
import Derived.Deep.Cut
import Derived.Deep.DeepCutAuto
set_option linter.unusedVariables false
set_option linter.unusedSimpArgs false
namespace Go.Proofs.YtocgnjkikgcjdaaDoor
open Go.RowKit

def isB (f : Fld) (name : List UInt8) : Bool := fold f.1 == fold name
set_option maxHeartbeats 400000 in
theorem is_any (n v : List UInt8) (s : List UInt8) (w : World) (hn : n.length ≤ 140737488355328) (hs : s.length ≤ 140737488355328) :
    Calls Tryd.prog 30 #[.agg #[.string (bs n), .string (bs v)], .string (bs s)] w fun e w' => e = .returned (.bool (isB (n, v) s)) ∧ Below w.heap.size w w' := by
  go_enter Tryd.func30, Tryd.ntmps30
  go_wp2_with fail
  refine (fold_any n _ hn).mono ?_
  rintro e w1 ⟨rfl, hb1⟩
  go_wp2_with fail
  refine (fold_any s _ hs).mono ?_
  rintro e w2 ⟨rfl, hb2⟩
  go_wp2
  go_ret
  exact ⟨rfl, bnext (bnext (alloc_below _ _) hb1 (by simp)) hb2 (by have := hb1.size; simp at this; omega)⟩

/-- The first place at which p holds, -1: there is none. -/
def idxI {α : Type} (p : α → Bool) (l : List α) : Int := match l.findIdx? p with | some i => i | none => -1
theorem idxI_none {α : Type} {p : α → Bool} {l : List α} (h : l.any p = false) : idxI p l = -1 := by
  unfold idxI
  have : l.findIdx? p = none := by
    rw [List.findIdx?_eq_none_iff]
    intro x hx
    rw [Bool.eq_false_iff]
    intro hp
    rw [Bool.eq_false_iff] at h
    exact h (List.any_eq_true.2 ⟨x, hx, hp⟩)
  rw [this]
theorem idxI_some {α : Type} {p : α → Bool} {l : List α} {k : Nat} {x : α} (h : (l.take k).any p = false) (hx : l[k]? = some x) (hp : p x = true) : idxI p l = k := by
  unfold idxI
  have : l.findIdx? p = some k := by
    rw [List.findIdx?_eq_some_iff_getElem]
    obtain ⟨hk, rfl⟩ := List.getElem?_eq_some_iff.1 hx
    refine ⟨hk, hp, fun j hj => ?_⟩
    have hm := List.any_eq_false.1 h (l[j]'(by omega)) (List.mem_take_iff_getElem.2 ⟨j, by omega, rfl⟩)
    simpa using hm
  rw [this]
theorem idxI_ge {α : Type} (p : α → Bool) (l : List α) : decide (0 ≤ idxI p l) = l.any p := by
  cases h : l.any p with
  | false => rw [idxI_none h]; rfl
  | true =>
    unfold idxI
    cases hf : l.findIdx? p with
    | none =>
      rw [List.findIdx?_eq_none_iff] at hf
      obtain ⟨x, hx, hp⟩ := List.any_eq_true.1 h
      rw [hf x hx] at hp; cases hp
    | some i => simp
end Go.Proofs.YtocgnjkikgcjdaaDoor
