/- Strings as lists of bytes: 'bs l' is the string of the bytes l; the walk's own forms for its length, parts, bytes and comparison. No conditions. -/
import Derived.WalkKit
import Derived.WalkSpells
import Derived.WalkLawsBesides
import Derived.Lib.Hide
set_option linter.unusedVariables false
set_option linter.unusedSimpArgs false
namespace Go.Proofs.Ytepedjnmliclkaa
open Go.RowKit

/-- The string of these bytes. -/
def bs (l : List UInt8) : ByteArray := ⟨l.toArray⟩
theorem bs_of (s : ByteArray) : s = bs s.data.toList := rfl
theorem bs_data (l : List UInt8) : (bs l).data.toList = l := rfl
@[simp, go_sem] theorem bs_size (l : List UInt8) : (bs l).size = l.length := by simp [bs, ByteArray.size]
@[simp, go_sem] theorem bs_toList (l : List UInt8) : (bs l).toList = l := ByteArray.toList_mk l
@[simp, go_sem] theorem bs_get (l : List UInt8) (i : Nat) (h : i < (bs l).size) : (bs l)[i]'h = l[i]'(by simpa using h) := rfl
@[simp, go_sem] theorem bs_extract (l : List UInt8) (a b : Nat) : (bs l).extract a b = bs ((l.drop a).take (b - a)) := by
  apply ByteArray.ext
  simp [bs, List.extract_eq_take_drop]
@[simp, go_sem] theorem bs_append (l m : List UInt8) : bs l ++ bs m = bs (l ++ m) := by
  apply ByteArray.ext
  simp [bs]
theorem ret_str {a b : List UInt8} (h : a = b) : Ending.returned (.string (bs a)) = .returned (.string (bs b)) := by rw [h]
theorem take_snoc {α : Type} (l : List α) (k : Nat) (h : k < l.length) : l.take (k + 1) = l.take k ++ [l[k]] := by
  rw [List.take_succ_eq_append_getElem h]
theorem ret_bool {a b : Bool} (h : a = b) : Ending.returned (.bool a) = .returned (.bool b) := by rw [h]
theorem ret_int {k : IntKind} {a b : Int} (h : a = b) : Ending.returned (.int k a) = .returned (.int k b) := by rw [h]
theorem ret_v {a b : Value} (h : a = b) : Ending.returned a = .returned b := by rw [h]

@[simp, go_sem] theorem take_drop_end {α : Type} (l : List α) (a : Nat) : (l.drop a).take (l.length - a) = l.drop a := List.take_of_length_le (by simp)
/-- Does p stand at s's beginning, at its end? -/
def preB (p s : List UInt8) : Bool := s.take p.length == p
def sufB (p s : List UInt8) : Bool := s.drop (s.length - p.length) == p
theorem preB_len {p s : List UInt8} (h : preB p s = true) : p.length ≤ s.length := by
  unfold preB at h
  have := congrArg List.length (eq_of_beq h)
  simp at this
  omega
theorem sufB_len {p s : List UInt8} (h : sufB p s = true) : p.length ≤ s.length := by
  unfold sufB at h
  have := congrArg List.length (eq_of_beq h)
  simp at this
  omega
def cutP (p s : List UInt8) : List UInt8 := if preB p s = true then s.drop p.length else s
def cutS (p s : List UInt8) : List UInt8 := if sufB p s = true then s.take (s.length - p.length) else s
theorem cutP_le (p s : List UInt8) : (cutP p s).length ≤ s.length := by unfold cutP; split <;> simp
theorem cutS_le (p s : List UInt8) : (cutS p s).length ≤ s.length := by unfold cutS; split <;> simp
theorem all_snoc {α : Type} (f : α → Bool) (l : List α) (k : Nat) (h : k < l.length) : (l.take (k + 1)).all f = ((l.take k).all f && f l[k]) := by
  rw [take_snoc l k h, List.all_append]; simp
theorem all_stop {α : Type} (f : α → Bool) (l : List α) (k : Nat) (h : k < l.length) (hf : f l[k] = false) : l.all f = false := by
  rw [Bool.eq_false_iff]
  intro ha
  have := List.all_eq_true.1 ha _ (List.getElem_mem h)
  rw [this] at hf; cases hf
theorem all_full {α : Type} (f : α → Bool) (l : List α) (h : (l.take l.length).all f = true) : l.all f = true := by rwa [List.take_length] at h

end Go.Proofs.Ytepedjnmliclkaa
