/- Cache-Control in plain Lean: what stands in quotes, seconds, directives. No program here; no conditions. -/
import Derived.Test.YtfhkgbimnfjfhaaDoorDt
import Derived.Test.YtfhkgbimnfjfhaaDoorFold
import Derived.Test.YtfhkgbimnfjfhaaDoorLists
import Derived.Test.YtfhkgbimnfjfhaaDoorUr
set_option linter.unusedVariables false
set_option linter.unusedSimpArgs false
namespace Go.Proofs.YtfhkgbimnfjfhaaDoor
namespace Ctl
/-- A byte that may stand in a text: a blank, a sign that shows, or what is beyond ASCII. -/
def txt (c : UInt8) : Bool := c == 9 || (decide (32 ≤ c.toNat) && !(c == 127))
/-- What stands in quotes, behind the first quote. -/
def uq : List UInt8 → Option (List UInt8)
  | [] => none
  | [c] => if c = 34 then some [] else none
  | [c, d] => if c = 34 then none else if c = 92 then none else if txt c = true then (if d = 34 then some [c] else none) else none
  | c :: d :: e :: r => if c = 34 then none else if c = 92 then (if txt d = true then (uq (e :: r)).map (d :: ·) else none) else if txt c = true then (uq (d :: e :: r)).map (c :: ·) else none
/-- The document's: what stands between the first quote and the last. -/
def rq : List UInt8 → Option (List UInt8)
  | [] => some []
  | [c] => if c = 92 then none else if c = 34 then none else if txt c = true then some [c] else none
  | c :: d :: r => if c = 92 then (if txt d = true then (rq r).map (d :: ·) else none) else if c = 34 then none else if txt c = true then (rq (d :: r)).map (c :: ·) else none
theorem uq_end : ∀ inn : List UInt8, uq (inn ++ [34]) = rq inn
  | [] => rfl
  | [c] => by
    show uq [c, 34] = rq [c]
    unfold uq rq
    by_cases h1 : c = 34
    · subst h1; rfl
    · by_cases h2 : c = 92
      · subst h2; rfl
      · simp [h1, h2]
  | [c, d] => by
    show uq [c, d, 34] = rq [c, d]
    rw [uq, rq]
    by_cases h1 : c = 34
    · subst h1; rfl
    · by_cases h2 : c = 92
      · subst h2; rfl
      · rw [if_neg h1, if_neg h2, if_neg h2, if_neg h1]
        rw [show [d, (34 : UInt8)] = [d] ++ [34] from rfl, uq_end [d]]
  | c :: d :: e :: r => by
    show uq (c :: d :: e :: (r ++ [34])) = rq (c :: d :: e :: r)
    rw [uq, rq]
    by_cases h1 : c = 34
    · subst h1; rfl
    · by_cases h2 : c = 92
      · subst h2
        rw [if_neg (by decide), if_pos rfl, if_pos rfl, show e :: (r ++ [34]) = (e :: r) ++ [34] from rfl, uq_end (e :: r)]
      · rw [if_neg h1, if_neg h2, if_neg h2, if_neg h1, show d :: e :: (r ++ [34]) = (d :: e :: r) ++ [34] from rfl, uq_end (d :: e :: r)]
theorem uq_no : ∀ t : List UInt8, t.getLast? ≠ some 34 → uq t = none
  | [], _ => rfl
  | [c], h => by
    unfold uq
    rw [if_neg (by rintro rfl; simp at h)]
  | [c, d], h => by
    unfold uq
    have : d ≠ 34 := by rintro rfl; simp at h
    simp [this]
  | c :: d :: e :: r, h => by
    have h1 : (e :: r).getLast? ≠ some 34 := by simpa [List.getLast?_cons_cons] using h
    have h2 : (d :: e :: r).getLast? ≠ some 34 := by simpa [List.getLast?_cons_cons] using h
    rw [uq, uq_no (e :: r) h1, uq_no (d :: e :: r) h2]
    simp
/-- Unquote's text; "" where it is none. -/
def unq (s : List UInt8) : Option (List UInt8) := match s with
  | 34 :: t => uq t
  | _ => none
/-- The document's Unquote. -/
def runq (s : List UInt8) : Option (List UInt8) := if 2 ≤ s.length ∧ s.head? = some 34 ∧ s.getLast? = some 34 then rq (s.drop 1).dropLast else none
theorem unq_eq (s : List UInt8) : runq s = unq s := by
  unfold runq
  match s with
  | [] => rfl
  | c :: t =>
    by_cases hc : c = 34
    · subst hc
      show _ = uq t
      by_cases ht : t.getLast? = some 34
      · obtain ⟨i, rfl⟩ : ∃ i, t = i ++ [34] := by
          have hne : t ≠ [] := by rintro rfl; simp at ht
          refine ⟨t.dropLast, ?_⟩
          have := List.dropLast_concat_getLast hne
          rw [List.getLast?_eq_some_getLast hne] at ht
          rw [← Option.some.inj ht]; exact this.symm
        rw [uq_end, if_pos ⟨by simp, rfl, by rw [show (34 : UInt8) :: (i ++ [34]) = (34 :: i) ++ [34] from rfl, List.getLast?_concat]⟩]
        simp
      · rw [uq_no t ht, if_neg]
        rintro ⟨h1, -, h3⟩
        cases t with
        | nil => simp at h1
        | cons d r => rw [List.getLast?_cons_cons] at h3; exact ht h3
    · have : unq (c :: t) = none := by
        unfold unq
        split
        · rename_i h; cases h; exact absurd rfl hc
        · rfl
      rw [this, if_neg (by rintro ⟨-, h2, -⟩; simp at h2; exact hc h2)]
/-- A number of seconds, -1: it is none. -/
def secF (v : Int) (c : UInt8) : Int := if 2147483648 < v * 10 + ((c.toNat : Int) - 48) then 2147483648 else v * 10 + ((c.toNat : Int) - 48)
def secL (s : List UInt8) : Int := if s = [] ∨ s.all Dt.isD = false then -1 else s.foldl secF 0
theorem secF_bd {v : Int} {c : UInt8} (h : Dt.isD c = true) (h0 : 0 ≤ v) : 0 ≤ secF v c ∧ secF v c ≤ 2147483648 := by
  have := Dt.isD_bd h
  unfold secF; split <;> omega
/- directives -/
abbrev Dir := List UInt8 × List UInt8 × Bool
/-- An argument, out of its quotes. -/
def argT (t : List UInt8) : List UInt8 := if t.head? = some 34 then (unq t).getD [] else t
def dirOf (d : List UInt8) : Dir := (fold (Ur.cutA 61 d), argT (Ur.cutB 61 d), Ur.hasC 61 d)
def dirsV (V : List (List UInt8)) : List Dir := (V.map fun v => (listL v).map dirOf).flatten
theorem dirsV_snoc {V : List (List UInt8)} {k : Nat} {x : List UInt8} (h : V[k]? = some x) : dirsV (V.take (k + 1)) = dirsV (V.take k) ++ (listL x).map dirOf := by
  unfold dirsV; rw [take_snoc? h]; simp
/-- The first directive of a name. -/
def firstD (D : List Dir) (n : List UInt8) : Option Dir := D.find? fun d => d.1 == n
theorem firstD_app (D E : List Dir) (n : List UInt8) : firstD (D ++ E) n = (firstD D n).or (firstD E n) := by unfold firstD; rw [List.find?_append]
def hasD (D : List Dir) (n : List UInt8) : Bool := (firstD D n).isSome
def numD (D : List Dir) (n : List UInt8) : Int := match firstD D n with
  | none => -1
  | some d => if secL d.2.1 < 0 then 0 else secL d.2.1
def patD (D : List Dir) (n : List UInt8) : Int := match firstD D n with
  | none => -1
  | some d => if d.2.2 = true then secL d.2.1 else 2147483648
/-- What a map of the first directives looks like: the names in it are those of D, each with its first directive. -/
def MapOf (D : List Dir) (m : List UInt8 → Option (List UInt8 × Bool)) : Prop := ∀ n, m n = (firstD D n).map fun d => (d.2.1, d.2.2)
end Ctl
end Go.Proofs.YtfhkgbimnfjfhaaDoor
