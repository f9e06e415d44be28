/- Joined texts: Trim at blanks, and the pieces of a text at a byte outside of quoted stretches, as functions on lists of bytes. The conditions stand in each line. -/
import Derived.Test.YtbigcdmkfcmegaaGreatDoorM1
import Derived.Lib.SlTrimSet
set_option linter.unusedVariables false
set_option linter.unusedSimpArgs false
namespace Go.Proofs.YtbigcdmkfcmegaaGreatDoor
open Go.RowKit

/-- A text without blanks at its ends. -/
def trimL (s : List UInt8) : List UInt8 := Lib.trimS s [32, 9]
theorem trimL_le (s : List UInt8) : (trimL s).length ≤ s.length := by
  unfold trimL Lib.trimS Lib.trimLeftS Lib.trimRightS
  refine Nat.le_trans (List.dropWhile_sublist _).length_le ?_
  rw [List.length_reverse]
  refine Nat.le_trans (List.dropWhile_sublist _).length_le ?_
  simp
def blankB (b : UInt8) : Bool := b == 32 || b == 9
theorem blank_contains (b : UInt8) : ([32, 9] : List UInt8).contains b = blankB b := by unfold blankB; simp only [List.contains_cons, List.contains_nil, Bool.or_false]
/-- Read by two indexes: lo is where the first byte that is no blank stands, hi where the last one ends. -/
theorem trimL_at (s : List UInt8) (lo hi : Nat) (h1 : lo ≤ hi) (h2 : hi ≤ s.length) (ha : ∀ (j : Nat) b, j < lo → s[j]? = some b → blankB b = true) (hb : ∀ (j : Nat) b, hi ≤ j → s[j]? = some b → blankB b = true)
    (hc : lo < hi → (∀ b, s[lo]? = some b → blankB b = false) ∧ (∀ b, s[hi - 1]? = some b → blankB b = false)) (hd : lo = hi → lo = s.length) : trimL s = (s.drop lo).take (hi - lo) := by
  unfold trimL Lib.trimS
  by_cases hlt : lo < hi
  · obtain ⟨hc1, hc2⟩ := hc hlt
    rw [Lib.trimRightS_take s [32, 9] hi h2 (fun j b hj h => by rw [blank_contains]; exact hb j b hj h) (fun b _ h => by rw [blank_contains]; exact hc2 b h)]
    rw [Lib.trimLeftS_drop (s.take hi) [32, 9] lo (by rw [List.length_take]; omega) (fun j b hj h => by rw [blank_contains]; exact ha j b hj (by rw [List.getElem?_take] at h; split at h; exact h; cases h)) (fun b h => by rw [blank_contains]; exact hc1 b (by rw [List.getElem?_take, if_pos hlt] at h; exact h))]
    rw [List.drop_take]
  · have he : lo = hi := by omega
    have hl := hd he
    subst he
    rw [Nat.sub_self, List.take_zero]
    have hall : ∀ b ∈ s, blankB b = true := by
      intro b hbm
      obtain ⟨j, hj, rfl⟩ := List.getElem_of_mem hbm
      exact ha j _ (by omega) (List.getElem?_eq_getElem hj)
    have hdw : ∀ l : List UInt8, (∀ b ∈ l, blankB b = true) → l.dropWhile (fun b => ([32, 9] : List UInt8).contains b) = [] := by
      intro l
      induction l with
      | nil => intro _; rfl
      | cons x r ih => intro h; rw [List.dropWhile_cons, if_pos (by rw [blank_contains]; exact h x (by simp))]; exact ih fun b hb => h b (by simp [hb])
    have : Lib.trimRightS s [32, 9] = [] := by
      unfold Lib.trimRightS
      rw [hdw _ (fun b hbm => hall b (by simpa using hbm))]; rfl
    rw [this]; rfl

/-- The pieces of a text at c outside of quoted stretches: what is read already, then the rest. -/
def pieces (c : UInt8) : List UInt8 → Bool → List UInt8 → List (List UInt8)
  | [], _, cur => [cur]
  | [b], q, cur => if (q && b == 92) = true then [cur ++ [b]] else if (b == 34) = true then [cur ++ [b]] else if (!q && b == c) = true then [cur, []] else [cur ++ [b]]
  | b :: d :: r, q, cur => if (q && b == 92) = true then pieces c r q (cur ++ [b, d]) else if (b == 34) = true then pieces c (d :: r) (!q) (cur ++ [b]) else if (!q && b == c) = true then cur :: pieces c (d :: r) q [] else pieces c (d :: r) q (cur ++ [b])
/-- What stands between from and i. -/
def span (s : List UInt8) (f i : Nat) : List UInt8 := (s.drop f).take (i - f)
theorem span_self (s : List UInt8) (i : Nat) : span s i i = [] := by simp [span]
theorem span_snoc {s : List UInt8} {f i : Nat} {b : UInt8} (hf : f ≤ i) (h : s[i]? = some b) : span s f (i + 1) = span s f i ++ [b] := by
  unfold span
  rw [show i + 1 - f = (i - f) + 1 from by omega]
  exact take_snoc? (by rw [List.getElem?_drop, show f + (i - f) = i from by omega]; exact h)
theorem span_end {s : List UInt8} {f i : Nat} (h : s.length ≤ i) : span s f i = s.drop f := List.take_of_length_le (by simp; omega)
/-- The pieces that are still to come at i, where the piece under way began at f. -/
def rest (c : UInt8) (s : List UInt8) (f i : Nat) (q : Bool) : List (List UInt8) := pieces c (s.drop i) q (span s f i)
theorem rest_start (c : UInt8) (s : List UInt8) : rest c s 0 0 false = pieces c s false [] := by simp [rest, span]
theorem rest_end {c : UInt8} {s : List UInt8} {f i : Nat} {q : Bool} (h : s.length ≤ i) : rest c s f i q = [s.drop f] := by
  unfold rest; rw [List.drop_eq_nil_of_le h, span_end h]; rfl
section
variable {c b : UInt8} {s : List UInt8} {f i : Nat} {q : Bool}
theorem drop_at (h : s[i]? = some b) : s.drop i = b :: s.drop (i + 1) := by
  obtain ⟨hi, rfl⟩ := List.getElem?_eq_some_iff.1 h
  exact List.drop_eq_getElem_cons hi
theorem rest_escape (hf : f ≤ i) (h : s[i]? = some 92) (hq : q = true) : rest c s f i q = rest c s f (i + 2) q := by
  subst hq
  unfold rest
  rw [drop_at h]
  by_cases h2 : i + 1 < s.length
  · rw [List.drop_eq_getElem_cons h2, span_snoc (i := i + 1) (by omega) (List.getElem?_eq_getElem h2), span_snoc hf h]
    simp only [pieces, Bool.true_and, beq_self_eq_true, if_true, List.append_assoc]; rfl
  · have hl := lt_of_get? h
    rw [List.drop_eq_nil_of_le (by omega), List.drop_eq_nil_of_le (by omega), span_end (i := i + 2) (by omega)]
    simp only [pieces, Bool.true_and, beq_self_eq_true, if_true]
    rw [← span_snoc hf h, span_end (by omega)]
theorem rest_quote (hf : f ≤ i) (h : s[i]? = some 34) : rest c s f i q = rest c s f (i + 1) (!q) := by
  unfold rest
  rw [drop_at h, span_snoc hf h]
  have h0 : ((34 : UInt8) == 92) = false := rfl
  rcases hd : s.drop (i + 1) with _ | ⟨d, r⟩ <;> simp only [pieces, h0, Bool.and_false, Bool.false_eq_true, if_false, beq_self_eq_true, if_true]
theorem rest_cut (h : s[i]? = some b) (h1 : (q && b == 92) = false) (h2 : (b == 34) = false) (h3 : (!q && b == c) = true) : rest c s f i q = span s f i :: rest c s (i + 1) (i + 1) q := by
  unfold rest
  rw [drop_at h, span_self]
  rcases hd : s.drop (i + 1) with _ | ⟨d, r⟩ <;> simp only [pieces, h1, h2, h3, Bool.false_eq_true, if_false, if_true]
theorem rest_plain (hf : f ≤ i) (h : s[i]? = some b) (h1 : (q && b == 92) = false) (h2 : (b == 34) = false) (h3 : (!q && b == c) = false) : rest c s f i q = rest c s f (i + 1) q := by
  unfold rest
  rw [drop_at h, span_snoc hf h]
  rcases hd : s.drop (i + 1) with _ | ⟨d, r⟩ <;> simp only [pieces, h1, h2, h3, Bool.false_eq_true, if_false]
end
/-- The pieces, and a list's elements. -/
def splitL (c : UInt8) (s : List UInt8) : List (List UInt8) := pieces c s false []
def listL (s : List UInt8) : List (List UInt8) := ((splitL 44 s).map trimL).filter fun p => !p.isEmpty
end Go.Proofs.YtbigcdmkfcmegaaGreatDoor
