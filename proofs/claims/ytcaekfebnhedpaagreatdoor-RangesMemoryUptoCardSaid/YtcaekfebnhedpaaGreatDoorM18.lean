/- Joined texts: Validators in plain Lean: what Ask asks, what is unchanged, a request with a response's own validators. The conditions stand in each line. -/
import Derived.Test.YtcaekfebnhedpaaGreatDoorM6
import Derived.Test.YtcaekfebnhedpaaGreatDoorM16
import Derived.Test.YtcaekfebnhedpaaGreatDoorM17
set_option linter.unusedVariables false
set_option linter.unusedSimpArgs false
namespace Go.Proofs.YtcaekfebnhedpaaGreatDoor
open Go.RowKit

set_option maxRecDepth 100000
namespace Val
open Frs
abbrev etagN : List UInt8 := [101, 116, 97, 103]
abbrev EtagN : List UInt8 := [69, 84, 97, 103]
abbrev inmN : List UInt8 := [105, 102, 45, 110, 111, 110, 101, 45, 109, 97, 116, 99, 104]
abbrev InmN : List UInt8 := [73, 102, 45, 78, 111, 110, 101, 45, 77, 97, 116, 99, 104]
abbrev imsN : List UInt8 := [105, 102, 45, 109, 111, 100, 105, 102, 105, 101, 100, 45, 115, 105, 110, 99, 101]
abbrev ImsN : List UInt8 := [73, 102, 45, 77, 111, 100, 105, 102, 105, 101, 100, 45, 83, 105, 110, 99, 101]
/-- Is it a tag? -/
def tagB (s : List UInt8) : Bool := (tgR s).2.2
/-- The fields that ask whether a response still holds. -/
def askL (l : List Fld) : List Fld := (if tagB (getL l etagN) = true then [(InmN, getL l etagN)] else []) ++ (if momO l lmN = true then [(ImsN, getL l lmN)] else [])
/-- Does an element name the tag? -/
def hitB (tag el : List UInt8) : Bool := el == [42] || sameR el tag false
def hitsB (tag v : List UInt8) : Bool := (listL v).any (hitB tag)
/-- Does a request know the response? -/
def unchL (ask : List Fld) (st : Int) (l : List Fld) : Bool :=
  if st = 200 then (if (valuesL ask inmN).isEmpty = true then (momO ask imsN && (momO l lmN && decide (momV l lmN ≤ momV ask imsN))) else (valuesL ask inmN).any (hitsB (getL l etagN))) else false
theorem trim_plainV {s : List UInt8} (hne : s ≠ []) (h0 : ∀ b, s[0]? = some b → blankB b = false) (h1 : ∀ b, s[s.length - 1]? = some b → blankB b = false) : trimL s = s := by
  have hl : 0 < s.length := List.length_pos_iff.2 hne
  rw [trimL_at s 0 s.length (by omega) (by omega) (fun j b hj => by omega) (fun j b hj h => by rw [List.getElem?_eq_none hj] at h; cases h) (fun _ => ⟨h0, h1⟩) (fun h => by omega)]
  simp
/-- What stands in quotes is one piece. -/
theorem pieces_q (c : UInt8) : ∀ (s cur : List UInt8), (∀ b ∈ s, b ≠ 34 ∧ b ≠ 92) → pieces c (s ++ [34]) true cur = [cur ++ (s ++ [34])]
  | [], cur, _ => by simp [pieces]
  | b :: r, cur, h => by
    obtain ⟨h1, h2⟩ := h b (by simp)
    have ih := pieces_q c r (cur ++ [b]) (fun x hx => h x (by simp [hx]))
    cases hd : r ++ [34] with
    | nil => simp at hd
    | cons d t =>
      rw [List.cons_append, hd]
      rw [hd] at ih
      simp only [pieces]
      rw [if_neg (by simpa using h2), if_neg (by simpa using h1), if_neg (by simp), ih]
      simp
theorem pieces_quoted (c : UInt8) (s cur : List UInt8) (h : ∀ b ∈ s, b ≠ 34 ∧ b ≠ 92) : pieces c (34 :: (s ++ [34])) false cur = [cur ++ 34 :: (s ++ [34])] := by
  have ih := pieces_q c s (cur ++ [34]) h
  cases hd : s ++ [34] with
  | nil => simp at hd
  | cons d t =>
    rw [hd] at ih
    simp only [pieces, Bool.false_and, Bool.false_eq_true, if_false, beq_self_eq_true, if_true, Bool.not_false]
    rw [ih]
    simp
/-- A tag, taken apart. -/
theorem tag_form {s : List UInt8} (h : tagB s = true) : ∃ inn, (∀ b ∈ inn, b ≠ 34) ∧ (s = 34 :: (inn ++ [34]) ∨ s = 87 :: 47 :: 34 :: (inn ++ [34])) := by
  have hok : tgOk (tgO s) = true := by
    unfold tagB tgR at h
    by_cases hk : tgOk (tgO s) = true
    · exact hk
    · rw [if_neg hk] at h; cases h
  have ho : s = tgO s ∨ s = 87 :: 47 :: tgO s := by
    unfold tgO cutP
    by_cases hp : preB [87, 47] s = true
    · right
      rw [if_pos hp]
      have h2 := eq_of_beq (show (s.take 2 == [87, 47]) = true from hp)
      have h3 := List.take_append_drop 2 s
      rw [h2] at h3
      exact h3.symm
    · left; rw [if_neg hp]
  generalize tgO s = o at *
  unfold tgOk at hok
  rw [Bool.and_eq_true, Bool.and_eq_true] at hok
  obtain ⟨h1, h2, h3⟩ := hok
  have hc : o = 34 :: o.drop 1 := by
    have h4 := eq_of_beq (show (o.take 1 == [34]) = true from h1)
    have h5 := List.take_append_drop 1 o
    rw [h4] at h5
    exact h5.symm
  have hcut : cutP [34] o = o.drop 1 := by unfold cutP; rw [if_pos h1]; rfl
  rw [hcut] at h2
  have hin : tgIn o = (o.drop 1).take ((o.drop 1).length - 1) := by
    unfold tgIn cutS
    rw [hcut, if_pos h2]; rfl
  have hl := sufB_len h2
  have hs : o.drop 1 = tgIn o ++ [34] := by
    have h4 := eq_of_beq (show ((o.drop 1).drop ((o.drop 1).length - 1) == [34]) = true from h2)
    rw [hin]
    have h5 := List.take_append_drop ((o.drop 1).length - 1) (o.drop 1)
    rw [h4] at h5
    exact h5.symm
  have hb : ∀ b ∈ tgIn o, b ≠ 34 := fun b hb e => by
    have := List.all_eq_true.1 h3 b hb
    subst e
    exact absurd this (by decide)
  refine ⟨tgIn o, hb, ?_⟩
  rw [← hs, ← hc]
  exact ho
theorem tag_list {s : List UInt8} (h : tagB s = true) (h92 : ∀ b ∈ s, b ≠ 92) : listL s = [s] := by
  obtain ⟨inn, hb, hs | hs⟩ := tag_form h
  · have hi : ∀ b ∈ inn, b ≠ 34 ∧ b ≠ 92 := fun b hm => ⟨hb b hm, h92 b (by rw [hs]; simp [hm])⟩
    have hp : splitL 44 s = [s] := by unfold splitL; rw [hs, pieces_quoted 44 inn [] hi]; rfl
    unfold listL
    rw [hp, List.map_cons, List.map_nil, trim_plainV (by rw [hs]; simp) (fun b hb => by rw [hs] at hb; simp at hb; subst hb; rfl) (fun b hb => by
      rw [hs, show (34 :: (inn ++ [34])).length - 1 = (34 :: inn).length by simp, show 34 :: (inn ++ [34]) = (34 :: inn) ++ [34] from rfl, List.getElem?_append_right (Nat.le_refl _)] at hb
      simp at hb; subst hb; rfl)]
    rw [hs]; simp
  · have hi : ∀ b ∈ inn, b ≠ 34 ∧ b ≠ 92 := fun b hm => ⟨hb b hm, h92 b (by rw [hs]; simp [hm])⟩
    have hp : splitL 44 s = [s] := by
      unfold splitL
      rw [hs]
      have := pieces_quoted 44 inn [87, 47] hi
      show pieces 44 (87 :: 47 :: 34 :: (inn ++ [34])) false [] = _
      simp only [pieces, Bool.false_and, Bool.false_eq_true, if_false, Bool.not_false, Bool.true_and]
      rw [if_neg (by decide), if_neg (by decide), if_neg (by decide), if_neg (by decide)]
      simpa using this
    unfold listL
    rw [hp, List.map_cons, List.map_nil, trim_plainV (by rw [hs]; simp) (fun b hb => by rw [hs] at hb; simp at hb; subst hb; rfl) (fun b hb => by
      rw [hs, show (87 :: 47 :: 34 :: (inn ++ [34])).length - 1 = (87 :: 47 :: 34 :: inn).length by simp, show 87 :: 47 :: 34 :: (inn ++ [34]) = (87 :: 47 :: 34 :: inn) ++ [34] from rfl, List.getElem?_append_right (Nat.le_refl _)] at hb
      simp at hb; subst hb; rfl)]
    rw [hs]; simp
theorem ask_none {l : List Fld} (h : askL l = []) : unchL (askL l) 200 l = false := by
  rw [h]
  have e1 : valuesL ([] : List Fld) inmN = [] := rfl
  have e2 : momO ([] : List Fld) imsN = false := by decide +kernel
  unfold unchL
  rw [e1, e2]
  rfl
theorem ask_known {l : List Fld} (h : askL l ≠ []) (h92 : ∀ f ∈ askL l, ∀ b ∈ f.2, b ≠ 92) : unchL (askL l) 200 l = true := by
  have f1 : ∀ x : List UInt8, isB (InmN, x) inmN = true := fun x => by unfold isB; show (fold InmN == fold inmN) = true; decide
  have f2 : ∀ x : List UInt8, isB (ImsN, x) inmN = false := fun x => by unfold isB; show (fold ImsN == fold inmN) = false; decide
  have f3 : ∀ x : List UInt8, isB (ImsN, x) imsN = true := fun x => by unfold isB; show (fold ImsN == fold imsN) = true; decide
  cases ht : tagB (getL l etagN) with
  | true =>
    have hv : valuesL (askL l) inmN = [getL l etagN] := by
      unfold valuesL askL
      rw [if_pos ht]
      cases momO l lmN with
      | true => simp only [List.cons_append, List.nil_append, if_true, List.filter_cons, List.filter_nil, f1, f2, Bool.false_eq_true, if_false, List.map_cons, List.map_nil]
      | false => simp only [List.append_nil, Bool.false_eq_true, if_false, List.filter_cons, List.filter_nil, f1, if_true, List.map_cons, List.map_nil]
    have hb : ∀ b ∈ getL l etagN, b ≠ 92 := h92 (InmN, getL l etagN) (by unfold askL; rw [if_pos ht]; simp)
    unfold unchL
    rw [if_pos rfl, hv]
    show [getL l etagN].any (hitsB (getL l etagN)) = true
    unfold hitsB
    rw [List.any_cons, tag_list ht hb]
    unfold hitB sameR
    unfold tagB at ht
    rw [List.any_cons, ht]
    simp
  | false =>
    cases hm : momO l lmN with
    | false => exact absurd (show askL l = [] by unfold askL; rw [ht, hm]; rfl) h
    | true =>
      have ha : askL l = [(ImsN, getL l lmN)] := by unfold askL; rw [ht, hm]; rfl
      have hv : valuesL (askL l) inmN = [] := by
        rw [ha]; unfold valuesL
        simp only [List.filter_cons, List.filter_nil, f2, Bool.false_eq_true, if_false, List.map_nil]
      have hg : getL (askL l) imsN = getL l lmN := by
        rw [ha]; unfold getL valuesL
        simp only [List.filter_cons, List.filter_nil, f3, if_true, List.map_cons, List.map_nil]
        rw [Lib.join_one]
      have e1 : momO (askL l) imsN = true := by
        unfold momO at *; rw [hg]; exact hm
      have e2 : momV (askL l) imsN = momV l lmN := by unfold momV; rw [hg]
      unfold unchL
      rw [if_pos rfl, hv, e1, e2, hm]
      simp
theorem ask_len (l : List Fld) : (askL l).length ≤ 2 := by
  unfold askL
  rw [List.length_append]
  split <;> split <;> simp
theorem ask_each {l : List Fld} {M : Nat} (h : ∀ n, (getL l n).length ≤ M) (hM : 17 ≤ M) : ∀ f ∈ askL l, f.1.length ≤ M ∧ f.2.length ≤ M := by
  intro f hf
  unfold askL at hf
  rw [List.mem_append] at hf
  rcases hf with hf | hf
  · split at hf
    · rw [List.mem_singleton] at hf; subst hf
      exact ⟨Nat.le_trans (show InmN.length ≤ 17 by decide) hM, h _⟩
    · simp at hf
  · split at hf
    · rw [List.mem_singleton] at hf; subst hf
      exact ⟨Nat.le_trans (show ImsN.length ≤ 17 by decide) hM, h _⟩
    · simp at hf
end Val
end Go.Proofs.YtcaekfebnhedpaaGreatDoor
