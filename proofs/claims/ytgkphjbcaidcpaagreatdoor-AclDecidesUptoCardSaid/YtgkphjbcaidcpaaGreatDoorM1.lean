/- Joined texts: Strings as lists of bytes: 'bs l' is the string of the bytes l; the walk's own forms for its length, parts, bytes and comparison; Slices in memory: 'Rd w sz A n xs': a slice of n elements of sz cells each reads as the cells xs; lists of texts and of fields; Trim at blanks, and the pieces of a text at a byte outside of quoted stretches, as functions on lists of bytes; append onto a row of the call's own from a slice that reads as given cells (nil, empty or not). Lines of the guide's worked lemmas turned to 'Rd'; The appends of texts and of fields at this program's types, as steps of a walk. The conditions stand in each line. -/
import Derived.Test.YtgkphjbcaidcpaaGreatDoorChecked
import Derived.WalkKit
import Derived.WalkSpells
import Derived.WalkLawsBesides
import Derived.Lib.Hide
import Derived.Below
import Derived.Laws.OwnMore
import Derived.Deep.AppendLies
import Derived.Deep.Draws
import Derived.Maps.AppendAt
import Derived.RegionTactic
import Derived.OwnWalk
import Derived.Lib.SlTrimSet
set_option linter.unusedVariables false
set_option linter.unusedSimpArgs false
namespace Go.Proofs.YtgkphjbcaidcpaaGreatDoor
open Go.RowKit

/-- The string of these bytes. -/
def bs (l : List UInt8) : ByteArray := ⟨l.toArray⟩
theorem bs_of (s : ByteArray) : s = bs s.data.toList := rfl
theorem bs_data (l : List UInt8) : (bs l).data.toList = l := rfl
@[simp, go_sem] theorem bs_size (l : List UInt8) : (bs l).size = l.length := by simp [bs, ByteArray.size]
@[simp, go_sem] theorem bs_toList (l : List UInt8) : (bs l).toList = l := ByteArray.toList_mk l
@[simp, go_sem] theorem bs_get (l : List UInt8) (i : Nat) (h : i < (bs l).size) : (bs l)[i]'h = l[i]'(by simpa using h) := rfl
@[simp, go_sem] theorem bs_extract (l : List UInt8) (a b : Nat) : (bs l).extract a b = bs ((l.drop a).take (b - a)) := by
  apply ByteArray.ext
  simp [bs, List.extract_eq_take_drop]
@[simp, go_sem] theorem bs_append (l m : List UInt8) : bs l ++ bs m = bs (l ++ m) := by
  apply ByteArray.ext
  simp [bs]
theorem ret_str {a b : List UInt8} (h : a = b) : Ending.returned (.string (bs a)) = .returned (.string (bs b)) := by rw [h]
theorem take_snoc {α : Type} (l : List α) (k : Nat) (h : k < l.length) : l.take (k + 1) = l.take k ++ [l[k]] := by
  rw [List.take_succ_eq_append_getElem h]
theorem ret_bool {a b : Bool} (h : a = b) : Ending.returned (.bool a) = .returned (.bool b) := by rw [h]
theorem ret_int {k : IntKind} {a b : Int} (h : a = b) : Ending.returned (.int k a) = .returned (.int k b) := by rw [h]
theorem ret_v {a b : Value} (h : a = b) : Ending.returned a = .returned b := by rw [h]

@[simp, go_sem] theorem take_drop_end {α : Type} (l : List α) (a : Nat) : (l.drop a).take (l.length - a) = l.drop a := List.take_of_length_le (by simp)
/-- Does p stand at s's beginning, at its end? -/
def preB (p s : List UInt8) : Bool := s.take p.length == p
def sufB (p s : List UInt8) : Bool := s.drop (s.length - p.length) == p
theorem preB_len {p s : List UInt8} (h : preB p s = true) : p.length ≤ s.length := by
  unfold preB at h
  have := congrArg List.length (eq_of_beq h)
  simp at this
  omega
theorem sufB_len {p s : List UInt8} (h : sufB p s = true) : p.length ≤ s.length := by
  unfold sufB at h
  have := congrArg List.length (eq_of_beq h)
  simp at this
  omega
def cutP (p s : List UInt8) : List UInt8 := if preB p s = true then s.drop p.length else s
def cutS (p s : List UInt8) : List UInt8 := if sufB p s = true then s.take (s.length - p.length) else s
theorem cutP_le (p s : List UInt8) : (cutP p s).length ≤ s.length := by unfold cutP; split <;> simp
theorem cutS_le (p s : List UInt8) : (cutS p s).length ≤ s.length := by unfold cutS; split <;> simp
theorem all_snoc {α : Type} (f : α → Bool) (l : List α) (k : Nat) (h : k < l.length) : (l.take (k + 1)).all f = ((l.take k).all f && f l[k]) := by
  rw [take_snoc l k h, List.all_append]; simp
theorem all_stop {α : Type} (f : α → Bool) (l : List α) (k : Nat) (h : k < l.length) (hf : f l[k] = false) : l.all f = false := by
  rw [Bool.eq_false_iff]
  intro ha
  have := List.all_eq_true.1 ha _ (List.getElem_mem h)
  rw [this] at hf; cases hf
theorem all_full {α : Type} (f : α → Bool) (l : List α) (h : (l.take l.length).all f = true) : l.all f = true := by rwa [List.take_length] at h

end Go.Proofs.YtgkphjbcaidcpaaGreatDoor
set_option linter.unusedVariables false
set_option linter.unusedSimpArgs false
namespace Go.Proofs.YtgkphjbcaidcpaaGreatDoor
open Go.RowKit

theorem below_drewN {B : Nat} {a w : World} (h : Below B a w) (n : Nat) : Below B a (w.drewN n) := ⟨h.os, h.tape, h.output, h.size, h.block⟩
/-- What a call that only makes memory leaves, behind what was there. -/
theorem bnext {B : Nat} {a b c : World} (h : Below B a b) (k : Below b.heap.size b c) (hB : B ≤ b.heap.size) : Below B a c := h.trans (k.mono hB)

/-- A slice (address A, n elements of sz cells) reads as the cells xs. -/
def Rd (w : World) (sz : Nat) (A : Option Addr) (n : Nat) (xs : List Value) : Prop :=
  xs.length = n * sz ∧ (0 < n → ∃ g o, A = some ⟨g, o, none⟩ ∧ g < w.heap.size ∧ ∀ j u, xs[j]? = some u → w.cell? ⟨g, o + j, none⟩ = some u)

section
variable {w w' : World} {sz n : Nat} {A : Option Addr} {xs : List Value}
theorem Rd.nil (w : World) (sz : Nat) (A : Option Addr) : Rd w sz A 0 [] := ⟨by simp, fun h => absurd h (by omega)⟩
theorem Rd.step (h : Rd w sz A n xs) (hb : Below w.heap.size w w') : Rd w' sz A n xs := by
  refine ⟨h.1, fun hn => ?_⟩
  obtain ⟨g, o, rfl, hg, hc⟩ := h.2 hn
  exact ⟨g, o, rfl, Nat.lt_of_lt_of_le hg hb.size, fun j u hu => (hb.cell (p := ⟨g, o + j, none⟩) hg).trans (hc j u hu)⟩
theorem Rd.same (h : Rd w sz A n xs) (hs : w.heap.size ≤ w'.heap.size) (hb : ∀ g o, A = some ⟨g, o, none⟩ → w'.heap[g]? = w.heap[g]?) : Rd w' sz A n xs := by
  refine ⟨h.1, fun hn => ?_⟩
  obtain ⟨g, o, rfl, hg, hc⟩ := h.2 hn
  exact ⟨g, o, rfl, Nat.lt_of_lt_of_le hg hs, fun j u hu => (World.cell?_of_block (w := w) (hb g o rfl)).trans (hc j u hu)⟩
theorem Rd.of_own {base : Nat} {e : TypeId} {c : Nat} (h : w.ownsRow base e sz (.slice A n c) n xs) : Rd w sz A n xs := by
  refine ⟨h.1, fun hn => ?_⟩
  obtain ⟨g, cap, hv, _, hlt⟩ := h.form hn
  have hA : A = some ⟨g, 0, none⟩ := by injection hv
  subst hA
  refine ⟨g, 0, rfl, hlt, fun j u hu => ?_⟩
  have := h.cells (g := g) rfl j u hu
  rw [show ((⟨g, 0, none⟩ : Addr).add j) = ⟨g, 0 + j, none⟩ from by unfold Addr.add; split <;> simp_all] at this
  exact this
end

/-- Texts, and fields (a name and a value), as cells. -/
def strV (s : List UInt8) : Value := .string (bs s)
def strs (l : List (List UInt8)) : List Value := l.map strV
abbrev Fld := List UInt8 × List UInt8
def fcells : List Fld → List Value
  | [] => []
  | f :: r => strV f.1 :: strV f.2 :: fcells r
theorem fcells_length (l : List Fld) : (fcells l).length = l.length * 2 := by
  induction l with
  | nil => rfl
  | cons f r ih => simp [fcells, ih]; omega
theorem fcells_append (l m : List Fld) : fcells (l ++ m) = fcells l ++ fcells m := by
  induction l with
  | nil => rfl
  | cons f r ih => simp [fcells, ih]
theorem fcells_get1 (l : List Fld) (k : Nat) (h : k < l.length) : (fcells l)[2 * k]? = some (strV l[k].1) := by
  induction l generalizing k with
  | nil => simp at h
  | cons f r ih =>
    cases k with
    | zero => rfl
    | succ k => rw [show 2 * (k + 1) = 2 * k + 1 + 1 from by omega]; simp [fcells]; exact ih k (by simpa using h)
theorem fcells_get2 (l : List Fld) (k : Nat) (h : k < l.length) : (fcells l)[2 * k + 1]? = some (strV l[k].2) := by
  induction l generalizing k with
  | nil => simp at h
  | cons f r ih =>
    cases k with
    | zero => rfl
    | succ k => rw [show 2 * (k + 1) + 1 = 2 * k + 1 + 1 + 1 from by omega]; simp [fcells]; exact ih k (by simpa using h)
theorem fcells_take (l : List Fld) (i : Nat) : fcells (l.take i) = (fcells l).take (i * 2) := by
  induction l generalizing i with
  | nil => simp [fcells]
  | cons f r ih =>
    cases i with
    | zero => simp [fcells]
    | succ i => rw [show (i + 1) * 2 = i * 2 + 1 + 1 from by omega]; simp [fcells, ih i]
theorem strs_length (l : List (List UInt8)) : (strs l).length = l.length := by simp [strs]
theorem strs_get (l : List (List UInt8)) (k : Nat) (h : k < l.length) : (strs l)[k]? = some (strV l[k]) := by simp [strs, h]
theorem strs_one (l : List (List UInt8)) : ∀ u ∈ strs l, u.oneCell' = true := by
  intro u hu; simp only [strs, List.mem_map] at hu; obtain ⟨s, _, rfl⟩ := hu; rfl
theorem fcells_one (l : List Fld) : ∀ u ∈ fcells l, u.oneCell' = true := by
  induction l with
  | nil => intro u hu; simp [fcells] at hu
  | cons f r ih => intro u hu; simp only [fcells, List.mem_cons] at hu; rcases hu with rfl | rfl | hu; rfl; rfl; exact ih u hu

/-- A slice of texts; a slice of fields. -/
def RdS (w : World) (A : Option Addr) (n : Nat) (l : List (List UInt8)) : Prop := l.length = n ∧ Rd w 1 A n (strs l)
def RdF (w : World) (A : Option Addr) (n : Nat) (l : List Fld) : Prop := l.length = n ∧ Rd w 2 A n (fcells l)
section
variable {w w' : World} {n : Nat} {A : Option Addr}
theorem RdS.step {l : List (List UInt8)} (h : RdS w A n l) (hb : Below w.heap.size w w') : RdS w' A n l := ⟨h.1, h.2.step hb⟩
theorem RdF.step {l : List Fld} (h : RdF w A n l) (hb : Below w.heap.size w w') : RdF w' A n l := ⟨h.1, h.2.step hb⟩
theorem RdS.nil (w : World) (A : Option Addr) : RdS w A 0 [] := ⟨rfl, Rd.nil w 1 A⟩
theorem RdF.nil (w : World) (A : Option Addr) : RdF w A 0 [] := ⟨rfl, Rd.nil w 2 A⟩
theorem RdS.at_ {l : List (List UInt8)} (h : RdS w A n l) {k : Nat} (hk : k < n) : ∃ g o s, A = some ⟨g, o, none⟩ ∧ g < w.heap.size ∧ Hid (l[k]? = some s) ∧ w.cell? ⟨g, o + k, none⟩ = some (.string (bs s)) := by
  obtain ⟨g, o, e, hg, hc⟩ := h.2.2 (by omega)
  have hk' : k < l.length := by rw [h.1]; exact hk
  exact ⟨g, o, l[k], e, hg, Lib.hid (List.getElem?_eq_getElem hk'), hc k _ (strs_get l k hk')⟩
theorem RdF.at_ {l : List Fld} (h : RdF w A n l) {k : Nat} (hk : k < n) : ∃ g o nm vl, A = some ⟨g, o, none⟩ ∧ g < w.heap.size ∧ Hid (l[k]? = some (nm, vl)) ∧ w.cell? ⟨g, o + k * 2, none⟩ = some (.string (bs nm)) ∧ w.cell? ⟨g, o + k * 2 + 1, none⟩ = some (.string (bs vl)) := by
  obtain ⟨g, o, e, hg, hc⟩ := h.2.2 (by omega)
  have hk' : k < l.length := by rw [h.1]; exact hk
  refine ⟨g, o, l[k].1, l[k].2, e, hg, Lib.hid (List.getElem?_eq_getElem hk'), ?_, ?_⟩
  · rw [Nat.mul_comm]; exact hc _ _ (fcells_get1 l k hk')
  · rw [Nat.mul_comm, Nat.add_assoc]; exact hc _ _ (fcells_get2 l k hk')
theorem take_snoc? {α : Type} {l : List α} {k : Nat} {x : α} (h : l[k]? = some x) : l.take (k + 1) = l.take k ++ [x] := by
  obtain ⟨hk, rfl⟩ := List.getElem?_eq_some_iff.1 h
  exact take_snoc l k hk
theorem lt_of_get? {α : Type} {l : List α} {k : Nat} {x : α} (h : l[k]? = some x) : k < l.length := (List.getElem?_eq_some_iff.1 h).1
end

theorem mem_of_get? {α : Type} {l : List α} {k : Nat} {x : α} (h : l[k]? = some x) : x ∈ l := by
  obtain ⟨hk, rfl⟩ := List.getElem?_eq_some_iff.1 h
  exact List.getElem_mem hk
/-- All texts of these fields are of a length that is read. -/
def FlenOK (l : List Fld) : Prop := ∀ f ∈ l, f.1.length ≤ 140737488355328 ∧ f.2.length ≤ 140737488355328
def SlenOK (l : List (List UInt8)) : Prop := ∀ s ∈ l, s.length ≤ 140737488355328
theorem keep2 {A B : Addr} {u v : Value} {W0 W W' : World} (h : W.cell? A = some u ∧ W.cell? B = some v ∧ Below W0.heap.size W0 W) (hb : Below W.heap.size W W') : W'.cell? A = some u ∧ W'.cell? B = some v ∧ Below W0.heap.size W0 W' :=
  ⟨(hb.cell (World.block_lt_of_cell? W _ h.1)).trans h.1, (hb.cell (World.block_lt_of_cell? W _ h.2.1)).trans h.2.1, bnext h.2.2 hb h.2.2.size⟩
theorem any_snoc {α : Type} {f : α → Bool} {l : List α} {k : Nat} {x : α} (h : l[k]? = some x) : (l.take (k + 1)).any f = ((l.take k).any f || f x) := by
  rw [take_snoc? h, List.any_append]; simp

theorem filter_snoc {α : Type} {f : α → Bool} {l : List α} {k : Nat} {x : α} (h : l[k]? = some x) : (l.take (k + 1)).filter f = (l.take k).filter f ++ (if f x = true then [x] else []) := by
  rw [take_snoc? h, List.filter_append]
  simp only [List.filter_cons, List.filter_nil]
end Go.Proofs.YtgkphjbcaidcpaaGreatDoor
set_option linter.unusedVariables false
set_option linter.unusedSimpArgs false
namespace Go.Proofs.YtgkphjbcaidcpaaGreatDoor
open Go.RowKit

/-- A text without blanks at its ends. -/
def trimL (s : List UInt8) : List UInt8 := Lib.trimS s [32, 9]
theorem trimL_le (s : List UInt8) : (trimL s).length ≤ s.length := by
  unfold trimL Lib.trimS Lib.trimLeftS Lib.trimRightS
  refine Nat.le_trans (List.dropWhile_sublist _).length_le ?_
  rw [List.length_reverse]
  refine Nat.le_trans (List.dropWhile_sublist _).length_le ?_
  simp
def blankB (b : UInt8) : Bool := b == 32 || b == 9
theorem blank_contains (b : UInt8) : ([32, 9] : List UInt8).contains b = blankB b := by unfold blankB; simp only [List.contains_cons, List.contains_nil, Bool.or_false]
/-- Read by two indexes: lo is where the first byte that is no blank stands, hi where the last one ends. -/
theorem trimL_at (s : List UInt8) (lo hi : Nat) (h1 : lo ≤ hi) (h2 : hi ≤ s.length) (ha : ∀ (j : Nat) b, j < lo → s[j]? = some b → blankB b = true) (hb : ∀ (j : Nat) b, hi ≤ j → s[j]? = some b → blankB b = true)
    (hc : lo < hi → (∀ b, s[lo]? = some b → blankB b = false) ∧ (∀ b, s[hi - 1]? = some b → blankB b = false)) (hd : lo = hi → lo = s.length) : trimL s = (s.drop lo).take (hi - lo) := by
  unfold trimL Lib.trimS
  by_cases hlt : lo < hi
  · obtain ⟨hc1, hc2⟩ := hc hlt
    rw [Lib.trimRightS_take s [32, 9] hi h2 (fun j b hj h => by rw [blank_contains]; exact hb j b hj h) (fun b _ h => by rw [blank_contains]; exact hc2 b h)]
    rw [Lib.trimLeftS_drop (s.take hi) [32, 9] lo (by rw [List.length_take]; omega) (fun j b hj h => by rw [blank_contains]; exact ha j b hj (by rw [List.getElem?_take] at h; split at h; exact h; cases h)) (fun b h => by rw [blank_contains]; exact hc1 b (by rw [List.getElem?_take, if_pos hlt] at h; exact h))]
    rw [List.drop_take]
  · have he : lo = hi := by omega
    have hl := hd he
    subst he
    rw [Nat.sub_self, List.take_zero]
    have hall : ∀ b ∈ s, blankB b = true := by
      intro b hbm
      obtain ⟨j, hj, rfl⟩ := List.getElem_of_mem hbm
      exact ha j _ (by omega) (List.getElem?_eq_getElem hj)
    have hdw : ∀ l : List UInt8, (∀ b ∈ l, blankB b = true) → l.dropWhile (fun b => ([32, 9] : List UInt8).contains b) = [] := by
      intro l
      induction l with
      | nil => intro _; rfl
      | cons x r ih => intro h; rw [List.dropWhile_cons, if_pos (by rw [blank_contains]; exact h x (by simp))]; exact ih fun b hb => h b (by simp [hb])
    have : Lib.trimRightS s [32, 9] = [] := by
      unfold Lib.trimRightS
      rw [hdw _ (fun b hbm => hall b (by simpa using hbm))]; rfl
    rw [this]; rfl

/-- The pieces of a text at c outside of quoted stretches: what is read already, then the rest. -/
def pieces (c : UInt8) : List UInt8 → Bool → List UInt8 → List (List UInt8)
  | [], _, cur => [cur]
  | [b], q, cur => if (q && b == 92) = true then [cur ++ [b]] else if (b == 34) = true then [cur ++ [b]] else if (!q && b == c) = true then [cur, []] else [cur ++ [b]]
  | b :: d :: r, q, cur => if (q && b == 92) = true then pieces c r q (cur ++ [b, d]) else if (b == 34) = true then pieces c (d :: r) (!q) (cur ++ [b]) else if (!q && b == c) = true then cur :: pieces c (d :: r) q [] else pieces c (d :: r) q (cur ++ [b])
/-- What stands between from and i. -/
def span (s : List UInt8) (f i : Nat) : List UInt8 := (s.drop f).take (i - f)
theorem span_self (s : List UInt8) (i : Nat) : span s i i = [] := by simp [span]
theorem span_snoc {s : List UInt8} {f i : Nat} {b : UInt8} (hf : f ≤ i) (h : s[i]? = some b) : span s f (i + 1) = span s f i ++ [b] := by
  unfold span
  rw [show i + 1 - f = (i - f) + 1 from by omega]
  exact take_snoc? (by rw [List.getElem?_drop, show f + (i - f) = i from by omega]; exact h)
theorem span_end {s : List UInt8} {f i : Nat} (h : s.length ≤ i) : span s f i = s.drop f := List.take_of_length_le (by simp; omega)
/-- The pieces that are still to come at i, where the piece under way began at f. -/
def rest (c : UInt8) (s : List UInt8) (f i : Nat) (q : Bool) : List (List UInt8) := pieces c (s.drop i) q (span s f i)
theorem rest_start (c : UInt8) (s : List UInt8) : rest c s 0 0 false = pieces c s false [] := by simp [rest, span]
theorem rest_end {c : UInt8} {s : List UInt8} {f i : Nat} {q : Bool} (h : s.length ≤ i) : rest c s f i q = [s.drop f] := by
  unfold rest; rw [List.drop_eq_nil_of_le h, span_end h]; rfl
section
variable {c b : UInt8} {s : List UInt8} {f i : Nat} {q : Bool}
theorem drop_at (h : s[i]? = some b) : s.drop i = b :: s.drop (i + 1) := by
  obtain ⟨hi, rfl⟩ := List.getElem?_eq_some_iff.1 h
  exact List.drop_eq_getElem_cons hi
theorem rest_escape (hf : f ≤ i) (h : s[i]? = some 92) (hq : q = true) : rest c s f i q = rest c s f (i + 2) q := by
  subst hq
  unfold rest
  rw [drop_at h]
  by_cases h2 : i + 1 < s.length
  · rw [List.drop_eq_getElem_cons h2, span_snoc (i := i + 1) (by omega) (List.getElem?_eq_getElem h2), span_snoc hf h]
    simp only [pieces, Bool.true_and, beq_self_eq_true, if_true, List.append_assoc]; rfl
  · have hl := lt_of_get? h
    rw [List.drop_eq_nil_of_le (by omega), List.drop_eq_nil_of_le (by omega), span_end (i := i + 2) (by omega)]
    simp only [pieces, Bool.true_and, beq_self_eq_true, if_true]
    rw [← span_snoc hf h, span_end (by omega)]
theorem rest_quote (hf : f ≤ i) (h : s[i]? = some 34) : rest c s f i q = rest c s f (i + 1) (!q) := by
  unfold rest
  rw [drop_at h, span_snoc hf h]
  have h0 : ((34 : UInt8) == 92) = false := rfl
  rcases hd : s.drop (i + 1) with _ | ⟨d, r⟩ <;> simp only [pieces, h0, Bool.and_false, Bool.false_eq_true, if_false, beq_self_eq_true, if_true]
theorem rest_cut (h : s[i]? = some b) (h1 : (q && b == 92) = false) (h2 : (b == 34) = false) (h3 : (!q && b == c) = true) : rest c s f i q = span s f i :: rest c s (i + 1) (i + 1) q := by
  unfold rest
  rw [drop_at h, span_self]
  rcases hd : s.drop (i + 1) with _ | ⟨d, r⟩ <;> simp only [pieces, h1, h2, h3, Bool.false_eq_true, if_false, if_true]
theorem rest_plain (hf : f ≤ i) (h : s[i]? = some b) (h1 : (q && b == 92) = false) (h2 : (b == 34) = false) (h3 : (!q && b == c) = false) : rest c s f i q = rest c s f (i + 1) q := by
  unfold rest
  rw [drop_at h, span_snoc hf h]
  rcases hd : s.drop (i + 1) with _ | ⟨d, r⟩ <;> simp only [pieces, h1, h2, h3, Bool.false_eq_true, if_false]
end
/-- The pieces, and a list's elements. -/
def splitL (c : UInt8) (s : List UInt8) : List (List UInt8) := pieces c s false []
def listL (s : List UInt8) : List (List UInt8) := ((splitL 44 s).map trimL).filter fun p => !p.isEmpty
end Go.Proofs.YtgkphjbcaidcpaaGreatDoor
set_option linter.unusedVariables false
set_option linter.unusedSimpArgs false
namespace Go.Proofs.YtgkphjbcaidcpaaGreatDoor
open Go.RowKit

section
variable {P : Program} (w : World)

theorem run_append_of_nil (base : Nat) (t ty e : TypeId) (i : TypeInfo) (size : Nat) (ht : P.underlying t = some (.slice e)) (hi : P.info? e = some i)
    (v : Value) (n : Nat) (xs : List Value) (hown : w.ownsRow base e size v n xs) (A : Option Addr) (c : Nat) : (Builtin.append_ #[t, t] ty #[v, .slice A 0 c]).run P w = .ok v w := by
  have hl0 : ∀ a : Addr, (loadCells a 0).run P w = .ok #[] w := fun a => by simpa using run_loadCells_list (P := P) w a [] (fun j v h => by simp at h)
  rcases hown.2 with ⟨rfl, rfl⟩ | ⟨g, cap, cur, rfl, _, _, hnc, _⟩
  · cases A <;> simp [Builtin.append_, run_underlying ht, sizeOf, typeInfo, hi, Builtin.lenOf, Builtin.firstCells, hl0]
  · cases A <;> simp [Builtin.append_, run_underlying ht, sizeOf, typeInfo, hi, Builtin.lenOf, Builtin.firstCells, hnc, storeCells, hl0]

theorem addr_add (g o j : Nat) : ((⟨g, o, none⟩ : Addr).add j) = ⟨g, o + j, none⟩ := by unfold Addr.add; split <;> simp_all

theorem run_append_any (base : Nat) (t ty e : TypeId) (i : TypeInfo) (z : Value) (size bytes : Nat) (ht : P.underlying t = some (.slice e)) (hi : P.info? e = some i) (hz : i.zero = some z)
    (hsize : i.size = size) (hby : i.bytes = bytes) (hzs : z.cells.size = size) (hsz : 0 < size)
    (v : Value) (n : Nat) (xs : List Value) (hown : w.ownsRow base e size v n xs)
    (A : Option Addr) (m c : Nat) (news : List Value) (hr : Rd w size A m news) (h1 : ∀ u ∈ news, u.oneCell' = true)
    (h63 : n + m ≤ maxLen) (hbytes : (n + m) * bytes ≤ 140737488355328) (hbase : base ≤ w.heap.size) :
    ∃ v' w', (Builtin.append_ #[t, t] ty #[v, .slice A m c]).run P w = .ok v' w' ∧ w'.ownsRow base e size v' (n + m) (xs ++ news) ∧ w.grownBy w' v.ownBlock ∧
      (v'.ownBlock = v.ownBlock ∨ v'.ownBlock = some w.heap.size) := by
  rcases Nat.eq_zero_or_pos m with h0 | h0
  · subst h0
    have hn : news = [] := List.eq_nil_of_length_eq_zero (by simpa using hr.1)
    subst hn
    exact ⟨v, w, run_append_of_nil w base t ty e i size ht hi v n xs hown A c, by simpa using hown, World.grownBy.refl w _, .inl rfl⟩
  · obtain ⟨g, o, rfl, _, hc⟩ := hr.2 h0
    obtain ⟨v', w', hrun, h2, h3, _, h5⟩ := run_append_own_at (P := P) w base t ty e i z size bytes ht hi hz hsize hby hzs hsz v n xs hown ⟨g, o, none⟩ m c news hr.1 (fun j u hu => by rw [addr_add]; exact hc j u hu) h1 h63 hbytes hbase
    exact ⟨v', w', hrun, h2, h3, h5⟩

theorem wp_append_any {o : Oper} {a : Act} {K : Act → World → Prop} {Q : Exit → Act → World → Prop} (s x : Operand) (t : TypeId)
    (ho : o.op = .call { callee := .builtin .append, args := #[s, x], argTypes := #[t, t] })
    (base : Nat) (e : TypeId) (i : TypeInfo) (z : Value) (size bytes : Nat) (ht : P.underlying t = some (.slice e)) (hi : P.info? e = some i) (hz : i.zero = some z)
    (hsize : i.size = size) (hby : i.bytes = bytes) (hzs : z.cells.size = size) (hsz : 0 < size)
    (v : Value) (n : Nat) (xs : List Value) (hs : a.eval s = v) (hown : w.ownsRow base e size v n xs)
    (A : Option Addr) (m c : Nat) (news : List Value) (hx : a.eval x = .slice A m c) (hr : Rd w size A m news) (h1 : ∀ u ∈ news, u.oneCell' = true)
    (h63 : n + m ≤ maxLen) (hbytes : (n + m) * bytes ≤ 140737488355328) (hbase : base ≤ w.heap.size)
    (h : ∀ v' w', w'.ownsRow base e size v' (n + m) (xs ++ news) → w.grownBy w' v.ownBlock → (v'.ownBlock = v.ownBlock ∨ v'.ownBlock = some w.heap.size) → K (a.put o.dst v') w') : o.wp P a w K Q := by
  obtain ⟨v', w', hrun, h2, h3, h4⟩ := run_append_any (P := P) w base t o.type e i z size bytes ht hi hz hsize hby hzs hsz v n xs hown A m c news hr h1 h63 hbytes hbase
  unfold Oper.wp execOp
  simp only [ho, resolve, invoke, builtin, Sem.run_bind, Sem.run_pure, Result.andThen_ok, List.map_toArray, List.map_cons, List.map_nil, hs, hx, hrun]
  exact h v' w' h2 h3 h4

theorem wpList_append_any {ops : Array Oper} {rest : List Oper} {o : Oper} {a : Act} {Q : Exit → Act → World → Prop} (hgd : o.guard = none) (s x : Operand) (t : TypeId)
    (ho : o.op = .call { callee := .builtin .append, args := #[s, x], argTypes := #[t, t] })
    (base : Nat) (e : TypeId) (i : TypeInfo) (z : Value) (size bytes : Nat) (ht : P.underlying t = some (.slice e)) (hi : P.info? e = some i) (hz : i.zero = some z)
    (hsize : i.size = size) (hby : i.bytes = bytes) (hzs : z.cells.size = size) (hsz : 0 < size)
    (v : Value) (n : Nat) (xs : List Value) (hs : a.eval s = v) (hown : w.ownsRow base e size v n xs)
    (A : Option Addr) (m c : Nat) (news : List Value) (hx : a.eval x = .slice A m c) (hr : Rd w size A m news) (h1 : ∀ u ∈ news, u.oneCell' = true)
    (h63 : n + m ≤ maxLen) (hbytes : (n + m) * bytes ≤ 140737488355328) (hbase : base ≤ w.heap.size)
    (h : ∀ v' w', w'.ownsRow base e size v' (n + m) (xs ++ news) → w.grownBy w' v.ownBlock → (v'.ownBlock = v.ownBlock ∨ v'.ownBlock = some w.heap.size) → wpList P ops Q rest (a.put o.dst v') w') : wpList P ops Q (o :: rest) a w :=
  wpList_plain hgd fun _ hK => wp_append_any w s x t ho base e i z size bytes ht hi hz hsize hby hzs hsz v n xs hs hown A m c news hx hr h1 h63 hbytes hbase fun v' w' h2 h3 h4 => hK _ _ (h v' w' h2 h3 h4)

theorem step_append_any {ops : Array Oper} {o : Oper} {a : Act} {K : Act → World → Prop} {Q : Exit → Act → World → Prop} {E : Prop} (hgd : o.guard = none) (s x : Operand) (t : TypeId)
    (ho : o.op = .call { callee := .builtin .append, args := #[s, x], argTypes := #[t, t] })
    (base : Nat) (e : TypeId) (i : TypeInfo) (z : Value) (size bytes : Nat) (ht : P.underlying t = some (.slice e)) (hi : P.info? e = some i) (hz : i.zero = some z)
    (hsize : i.size = size) (hby : i.bytes = bytes) (hzs : z.cells.size = size) (hsz : 0 < size)
    (v : Value) (n : Nat) (xs : List Value) (hs : a.eval s = v) (hown : w.ownsRow base e size v n xs)
    (A : Option Addr) (m c : Nat) (news : List Value) (hx : a.eval x = .slice A m c) (hr : Rd w size A m news) (h1 : ∀ u ∈ news, u.oneCell' = true)
    (h63 : n + m ≤ maxLen) (hbytes : (n + m) * bytes ≤ 140737488355328) (hbase : base ≤ w.heap.size)
    (h : ∀ v' w', w'.ownsRow base e size v' (n + m) (xs ++ news) → w.grownBy w' v.ownBlock → (v'.ownBlock = v.ownBlock ∨ v'.ownBlock = some w.heap.size) → K (a.put o.dst v') w') :
    if Region.wanted o (yielded ops a.tmps) = true then Oper.wp P o a w K Q else E := by
  have hw : Region.wanted o (yielded ops a.tmps) = true := by simp [Region.wanted, hgd]
  rw [if_pos hw]
  exact wp_append_any w s x t ho base e i z size bytes ht hi hz hsize hby hzs hsz v n xs hs hown A m c news hx hr h1 h63 hbytes hbase h
end

/-- What an append onto a row of the call's own leaves: below the row's base all stands. -/
theorem below_app {B : Nat} {w0 w w' : World} {v : Value} {base : Nat} {e : TypeId} {size n : Nat} {xs : List Value} (hb : Below B w0 w) (hown : w.ownsRow base e size v n xs) (hg : w.grownBy w' v.ownBlock) (hB : B ≤ base) (hBw : B ≤ w.heap.size) : Below B w0 w' :=
  hb.grown hg hBw fun k hk => Nat.le_trans hB (hown.lt k hk).1
/-- The value of an owned row, as a slice. -/
theorem own_slice {w : World} {base : Nat} {e : TypeId} {size n : Nat} {v : Value} {xs : List Value} (h : w.ownsRow base e size v n xs) : ∃ A c, v = .slice A n c := by
  rcases h.2 with ⟨rfl, rfl⟩ | ⟨g, cap, _, rfl, _⟩
  · exact ⟨none, 0, rfl⟩
  · exact ⟨_, cap, rfl⟩
theorem own_made0 (w : World) (e : TypeId) (size : Nat) (cs : Array Value) (hc : cs = #[]) : (w.alloc (.cells cs e)).ownsRow w.heap.size e size (.slice (some ⟨w.heap.size, 0, none⟩) 0 0) 0 [] := by
  subst hc; exact World.ownsRow_made w #[] 0 (Nat.le_refl _) (by decide) (by simp)
theorem own_mono {w : World} {base base' : Nat} {e : TypeId} {size n : Nat} {v : Value} {xs : List Value} (h : w.ownsRow base e size v n xs) (hb : base' ≤ base) : w.ownsRow base' e size v n xs := by
  refine ⟨h.1, ?_⟩
  rcases h.2 with h2 | ⟨g, cap, cur, e1, e2, r⟩
  · exact .inl h2
  · exact .inr ⟨g, cap, cur, e1, Nat.le_trans hb e2, r⟩
/-- append onto a row of the call's own, as one step of a walk: the new value is a slice, below the row's base all stands. -/
theorem wpList_app {P : Program} {w : World} {t e : TypeId} {i : TypeInfo} {z : Value} {size bytes : Nat} (ht : P.underlying t = some (.slice e)) (hi : P.info? e = some i) (hz : i.zero = some z)
    (hsize : i.size = size) (hby : i.bytes = bytes) (hzs : z.cells.size = size) (hsz : 0 < size) (hbpos : 0 < bytes)
    {ops : Array Oper} {rest : List Oper} {o : Oper} {a : Act} {Q : Exit → Act → World → Prop} (hgd : o.guard = none) (s x : Operand)
    (ho : o.op = .call { callee := .builtin .append, args := #[s, x], argTypes := #[t, t] })
    (base : Nat) (v : Value) (n : Nat) (xs : List Value) (hs : a.eval s = v) (hown : w.ownsRow base e size v n xs)
    (A : Option Addr) (m c : Nat) (news : List Value) (hx : a.eval x = .slice A m c) (hr : Rd w size A m news) (h1 : ∀ u ∈ news, u.oneCell' = true)
    (hbytes : (n + m) * bytes ≤ 140737488355328) (hbase : base ≤ w.heap.size)
    (h : ∀ A' c' w', w'.ownsRow base e size (.slice A' (n + m) c') (n + m) (xs ++ news) → Below base w w' → wpList P ops Q rest (a.put o.dst (.slice A' (n + m) c')) w') : wpList P ops Q (o :: rest) a w := by
  have h63 : n + m ≤ maxLen := by
    have : (n + m) * 1 ≤ (n + m) * bytes := Nat.mul_le_mul_left _ hbpos
    unfold maxLen; omega
  refine wpList_append_any w hgd s x t ho base e i z size bytes ht hi hz hsize hby hzs hsz v n xs hs hown A m c news hx hr h1 h63 hbytes hbase fun v' w' h2 h3 _ => ?_
  obtain ⟨A', c', rfl⟩ := own_slice h2
  exact h A' c' w' h2 ((Below.refl base w).grown h3 hbase fun k hk => (hown.lt k hk).1)
theorem cell1_rd (w : World) (x : Value) (t : TypeId) : Rd (w.alloc (.cells #[x] t)) 1 (some ⟨w.heap.size, 0, none⟩) 1 [x] := by
  refine ⟨rfl, fun _ => ⟨w.heap.size, 0, rfl, by simp, fun j u hu => ?_⟩⟩
  have := cell_one_new w x t j u hu
  rwa [addr_add] at this
theorem cell2_rd (w : World) (x y : Value) (t : TypeId) : Rd (w.alloc (.cells #[x, y] t)) 2 (some ⟨w.heap.size, 0, none⟩) 1 [x, y] := by
  refine ⟨rfl, fun _ => ⟨w.heap.size, 0, rfl, by simp, fun j u hu => ?_⟩⟩
  rw [Nat.zero_add, cell_of_row _ _ _ #[x, y] t (0, 0) (heap_alloc_new w _)]
  simpa using hu
end Go.Proofs.YtgkphjbcaidcpaaGreatDoor
set_option linter.unusedVariables false
set_option linter.unusedSimpArgs false
namespace Go.Proofs.YtgkphjbcaidcpaaGreatDoor
open Go.RowKit

theorem str_info : (Tryz.prog.info? 9).map (fun i => (i.zero, i.size, i.bytes)) = some (some (.string ⟨#[]⟩), 1, 16) := by kernel_rfl
/-- A slice of the call's own that holds these texts; these fields. -/
def OwnS (w : World) (B : Nat) (v : Value) (l : List (List UInt8)) : Prop := w.ownsRow B 9 1 v l.length (strs l)
theorem OwnS.rd {w : World} {B n c : Nat} {A : Option Addr} {l : List (List UInt8)} (h : OwnS w B (.slice A n c) l) : RdS w A n l := by
  have h' : w.ownsRow B 9 1 (.slice A n c) l.length (strs l) := h
  obtain ⟨A', c', e⟩ := own_slice h'
  injection e with e1 e2 e3
  subst e1 e2
  exact ⟨rfl, Rd.of_own h'⟩
theorem OwnS.nil (w : World) (B : Nat) : OwnS w B (.slice none 0 0) [] := World.ownsRow_nil w B _ 1
theorem OwnS.made (w : World) : OwnS (w.alloc (.cells #[] 9)) w.heap.size (.slice (some ⟨w.heap.size, 0, none⟩) 0 0) [] := own_made0 w _ 1 #[] rfl
/-- An owned row stays where what is below the heap's end stands. -/
theorem own_step {w w' : World} {base : Nat} {e : TypeId} {size n : Nat} {v : Value} {xs : List Value} (h : w.ownsRow base e size v n xs) (hb : Below w.heap.size w w') : w'.ownsRow base e size v n xs :=
  h.kept (row := none) ⟨hb.os, hb.tape, hb.output, hb.size, fun k hk _ => hb.block k hk⟩ (by cases v.ownBlock <;> simp)
theorem OwnS.step {w w' : World} {B : Nat} {v : Value} {l : List (List UInt8)} (h : OwnS w B v l) (hb : Below w.heap.size w w') : OwnS w' B v l := own_step h hb
theorem OwnS.mono {w : World} {B B' : Nat} {v : Value} {l : List (List UInt8)} (h : OwnS w B v l) (hb : B' ≤ B) : OwnS w B' v l := own_mono h hb
theorem alloc_below (w : World) (o : Obj) : Below w.heap.size w (w.alloc o) := (Below.refl _ _).alloc (Nat.le_refl _) o
section
variable {w : World} {ops : Array Oper} {rest : List Oper} {o : Oper} {a : Act} {Q : Exit → Act → World → Prop}
/-- texts onto texts -/
theorem wp_appS (hgd : o.guard = none) (s x : Operand) (ho : o.op = .call { callee := .builtin .append, args := #[s, x], argTypes := #[39, 39] })
    (base : Nat) (v : Value) (l : List (List UInt8)) (hs : a.eval s = v) (hown : OwnS w base v l) (A : Option Addr) (m c : Nat) (news : List (List UInt8)) (hx : a.eval x = .slice A m c) (hr : RdS w A m news)
    (hbytes : (l.length + m) * 16 ≤ 140737488355328) (hbase : base ≤ w.heap.size)
    (h : ∀ A' n' c' w', OwnS w' base (.slice A' n' c') (l ++ news) → Below base w w' → Hid (n' = l.length + m) → wpList Tryz.prog ops Q rest (a.put o.dst (.slice A' n' c')) w') : wpList Tryz.prog ops Q (o :: rest) a w := by
  obtain ⟨i0, hi, hz0, hz1, hz2⟩ := info_parts str_info
  refine wpList_app Tryz.underlying39 hi hz0 hz1 hz2 rfl (by omega) (by omega) hgd s x ho base v l.length (strs l) hs hown A m c (strs news) hx hr.2 (strs_one _) hbytes hbase fun A' c' w' h1 h2 => h A' _ c' w' ?_ h2 (Lib.hid rfl)
  unfold OwnS
  rw [List.length_append, hr.1, show strs (l ++ news) = strs l ++ strs news from by simp [strs]]
  exact h1
end
theorem one_rdS (w : World) (s : List UInt8) (t : TypeId) : RdS (w.alloc (.cells #[.string (bs s)] t)) (some ⟨w.heap.size, 0, none⟩) 1 [s] := ⟨rfl, cell1_rd w _ t⟩
theorem one_rdS' (w : World) (s : List UInt8) (t : TypeId) (k : Nat) (hk : k = w.heap.size) : RdS (w.alloc (.cells #[.string (bs s)] t)) (some ⟨k, 0, none⟩) 1 [s] := by subst hk; exact one_rdS w s t
def StrsOut (w : World) (l : List (List UInt8)) (e : Ending) (w' : World) : Prop := ∃ A n c, e = .returned (.slice A n c) ∧ RdS w' A n l ∧ Below w.heap.size w w'
end Go.Proofs.YtgkphjbcaidcpaaGreatDoor
