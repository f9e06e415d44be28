/- Joined texts: Ages and lifetimes in plain Lean. The conditions stand in each line. -/
import Derived.Test.YtfhkgbimnfjfhaaGreatDoorM17
import Derived.Test.YtfhkgbimnfjfhaaGreatDoorM18
set_option linter.unusedVariables false
set_option linter.unusedSimpArgs false
namespace Go.Proofs.YtfhkgbimnfjfhaaGreatDoor
namespace Frs
open Ctl
abbrev dateN : List UInt8 := [100, 97, 116, 101]
abbrev DateN : List UInt8 := [68, 97, 116, 101]
abbrev ageN : List UInt8 := [97, 103, 101]
abbrev AgeN : List UInt8 := [65, 103, 101]
abbrev lmN : List UInt8 := [108, 97, 115, 116, 45, 109, 111, 100, 105, 102, 105, 101, 100]
abbrev LmN : List UInt8 := [76, 97, 115, 116, 45, 77, 111, 100, 105, 102, 105, 101, 100]
/-- All values of a name, as one text. -/
def getL (l : List Fld) (n : List UInt8) : List UInt8 := Lib.join (valuesL l n) [44, 32]
theorem get_name {l : List Fld} {a b : List UInt8} (h : fold a = fold b) : getL l a = getL l b := by unfold getL; rw [valuesL_name h]
theorem get_len {l : List Fld} (hls : FlenS l) (hn : l.length ≤ 1048576) (n : List UInt8) : (getL l n).length ≤ 1099513724928 := by
  unfold getL
  refine Nat.le_trans (join_len [44, 32] 1048576 _ (fun v hv => values_each hls hv)) ?_
  have := values_le l n
  exact Nat.le_trans (Nat.mul_le_mul (Nat.le_trans this hn) (Nat.le_refl _)) (by simp)
/-- The second of a date's field: 0 and false where there is none that is read. -/
def momV (l : List Fld) (n : List UInt8) : Int := (Dt.dparse (getL l n)).1
def momO (l : List Fld) (n : List UInt8) : Bool := (Dt.dparse (getL l n)).2 == 0
theorem momV_name {l : List Fld} {a b : List UInt8} (h : fold a = fold b) : momV l a = momV l b := by unfold momV; rw [get_name h]
theorem momO_name {l : List Fld} {a b : List UInt8} (h : fold a = fold b) : momO l a = momO l b := by unfold momO; rw [get_name h]
/-- The document's: -1 where there is none. -/
def secdL (l : List Fld) (n : List UInt8) : Int := if momO l n = true then momV l n else -1
theorem parse_bd (s : List UInt8) : 0 ≤ (Dt.dparse s).1 ∧ (Dt.dparse s).1 ≤ 253402300799 ∧ ((Dt.dparse s).2 ≠ 0 → (Dt.dparse s).1 = 0) := by
  rcases Dt.dparse_two s with h | h
  · have e : Dt.dparse s = ((Dt.dparse s).1, 0) := by rw [← h]
    have hi := (Dt.dparse_inv e).1
    unfold Dt.inR at hi
    exact ⟨by omega, by omega, fun h2 => absurd h h2⟩
  · rw [h]; simp
theorem mom_bd (l : List Fld) (n : List UInt8) : 0 ≤ momV l n ∧ momV l n ≤ 253402300799 := by
  have := parse_bd (getL l n); exact ⟨this.1, this.2.1⟩
theorem mom_no {l : List Fld} {n : List UInt8} (h : momO l n = false) : momV l n = 0 := by
  refine (parse_bd (getL l n)).2.2 ?_
  unfold momO at h
  simpa using h
theorem secd_bd (l : List Fld) (n : List UInt8) : -1 ≤ secdL l n ∧ secdL l n ≤ 253402300799 := by
  have := mom_bd l n
  unfold secdL; split <;> omega
def clampL (v hi : Int) : Int := min (max v 0) hi
theorem clamp_bd {v hi : Int} (h : 0 ≤ hi) : 0 ≤ clampL v hi ∧ clampL v hi ≤ hi := by unfold clampL; omega
/-- The document's cut is the same. -/
theorem cut_eq {v hi : Int} (h : 0 ≤ hi) : clampL v hi = if v < 0 then 0 else if hi < v then hi else v := by unfold clampL; split <;> (try split) <;> omega
/-- The entry's date. -/
def bornL (l : List Fld) (got : Int) : Int := if momO l dateN = true then momV l dateN else clampL got 253402300799
theorem born_bd (l : List Fld) (got : Int) : 0 ≤ bornL l got ∧ bornL l got ≤ 253402300799 := by
  have h1 := mom_bd l dateN
  have h2 := clamp_bd (v := got) (hi := 253402300799) (by omega)
  unfold bornL; split <;> assumption
theorem born_secd (l : List Fld) (got : Int) : bornL l got = if secdL l dateN < 0 then clampL got 253402300799 else secdL l dateN := by
  have h1 := mom_bd l dateN
  unfold bornL secdL
  cases h : momO l dateN
  · simp
  · rw [if_pos rfl, if_pos rfl, if_neg (by omega)]
structure Pol where
  mn : Int
  pc : Int
  mx : Int
  ng : Int
def Pol.ok (p : Pol) : Prop := (-9223372036854775808 ≤ p.mn ∧ p.mn ≤ 9223372036854775807) ∧ (-9223372036854775808 ≤ p.pc ∧ p.pc ≤ 9223372036854775807) ∧ (-9223372036854775808 ≤ p.mx ∧ p.mx ≤ 9223372036854775807) ∧ (-9223372036854775808 ≤ p.ng ∧ p.ng ≤ 9223372036854775807)
/-- What is guessed from the last change. -/
def guessV (born m pc : Int) : Int := ((born - m) * clampL pc 100).tdiv 100
def guessL (l : List Fld) (got pc : Int) : Int := if momO l lmN = true ∧ momV l lmN ≤ bornL l got then guessV (bornL l got) (momV l lmN) pc else 0
theorem guessV_bd {born m : Int} (pc : Int) (h1 : 0 ≤ born) (h2 : born ≤ 253402300799) (h3 : 0 ≤ m) (h4 : m ≤ born) : 0 ≤ (born - m) * clampL pc 100 ∧ (born - m) * clampL pc 100 ≤ 25340230079900 ∧ 0 ≤ guessV born m pc ∧ guessV born m pc ≤ 253402300799 := by
  have hc := clamp_bd (v := pc) (hi := 100) (by omega)
  unfold guessV
  generalize clampL pc 100 = c at *
  have k1 : 0 ≤ (born - m) * c := Int.mul_nonneg (by omega) hc.1
  have k2 : (born - m) * c ≤ 253402300799 * 100 := Int.mul_le_mul (by omega) hc.2 hc.1 (by omega)
  rw [Int.tdiv_eq_ediv_of_nonneg k1]
  omega
theorem guess_bd (l : List Fld) (got pc : Int) : 0 ≤ guessL l got pc ∧ guessL l got pc ≤ 253402300799 := by
  have hb := born_bd l got
  have hm := mom_bd l lmN
  unfold guessL
  split
  · rename_i h
    have := guessV_bd pc hb.1 hb.2 hm.1 h.2
    exact ⟨this.2.2.1, this.2.2.2⟩
  · omega
/-- How long an entry is fresh. -/
def lifeL (l : List Fld) (st got : Int) (p : Pol) : Int :=
  if 0 ≤ (ctlL l).sMaxAge then (ctlL l).sMaxAge else if 0 ≤ (ctlL l).maxAge then (ctlL l).maxAge
  else if toldL l expN = true then clampL (momV l expN - bornL l got) 2147483648
  else if negL st = true then clampL p.ng 2147483648
  else min (max (guessL l got p.pc) (clampL p.mn 2147483648)) (clampL p.mx 2147483648)
theorem life_secd (l : List Fld) (st got : Int) (p : Pol) : lifeL l st got p = if 0 ≤ (ctlL l).sMaxAge then (ctlL l).sMaxAge else if 0 ≤ (ctlL l).maxAge then (ctlL l).maxAge
    else if toldL l expN = true then clampL (secdL l expN - bornL l got) 2147483648
    else if negL st = true then clampL p.ng 2147483648
    else min (max (if 0 ≤ secdL l lmN ∧ secdL l lmN ≤ bornL l got then ((bornL l got - secdL l lmN) * clampL p.pc 100).tdiv 100 else 0) (clampL p.mn 2147483648)) (clampL p.mx 2147483648) := by
  have hb := born_bd l got
  have h1 : clampL (momV l expN - bornL l got) 2147483648 = clampL (secdL l expN - bornL l got) 2147483648 := by
    unfold secdL
    cases h : momO l expN
    · rw [mom_no h, if_neg (by decide)]; unfold clampL; omega
    · rw [if_pos rfl]
  have h2 : guessL l got p.pc = if 0 ≤ secdL l lmN ∧ secdL l lmN ≤ bornL l got then ((bornL l got - secdL l lmN) * clampL p.pc 100).tdiv 100 else 0 := by
    have hm := mom_bd l lmN
    unfold guessL guessV secdL
    cases h : momO l lmN
    · rw [if_neg (by simp), if_neg (by simp)]
    · simp [hm.1]
  unfold lifeL
  rw [h1, h2]
theorem neg_any (st : Int) : negL st = [404, 405, 410, 414, 501].any (· == st) := by
  have e : ∀ x : Int, (x == st) = (st == x) := fun x => Bool.eq_iff_iff.2 ⟨fun h => by rw [beq_iff_eq] at *; exact h.symm, fun h => by rw [beq_iff_eq] at *; exact h.symm⟩
  unfold negL
  simp only [List.any_cons, List.any_nil, e, Bool.or_false]
theorem ctl_bd (l : List Fld) : (-1 ≤ (ctlL l).sMaxAge ∧ (ctlL l).sMaxAge ≤ 2147483648) ∧ (-1 ≤ (ctlL l).maxAge ∧ (ctlL l).maxAge ≤ 2147483648) := by
  unfold ctlL ctD
  exact ⟨numD_ge _ _, numD_ge _ _⟩
theorem life_bd (l : List Fld) (st got : Int) (p : Pol) : 0 ≤ lifeL l st got p ∧ lifeL l st got p ≤ 2147483648 := by
  have h1 := ctl_bd l
  have hc : ∀ v : Int, 0 ≤ clampL v 2147483648 ∧ clampL v 2147483648 ≤ 2147483648 := fun v => clamp_bd (by omega)
  unfold lifeL
  split
  · omega
  · split
    · omega
    · split
      · exact hc _
      · split
        · exact hc _
        · have := hc p.mn; have := hc p.mx; have := guess_bd l got p.pc; omega
/-- How old an entry is. -/
def ageL (l : List Fld) (asked got now : Int) : Int :=
  max (max 0 (clampL got 253402300799 - bornL l got)) (max 0 (secL (getL l ageN)) + max 0 (clampL got 253402300799 - clampL asked 253402300799)) + max 0 (clampL now 253402300799 - clampL got 253402300799)
theorem age_bd (l : List Fld) (asked got now : Int) : 0 ≤ ageL l asked got now ∧ ageL l asked got now ≤ 600000000000 := by
  have h1 := born_bd l got
  have h2 := secL_ge (getL l ageN)
  have hc : ∀ v : Int, 0 ≤ clampL v 253402300799 ∧ clampL v 253402300799 ≤ 253402300799 := fun v => clamp_bd (by omega)
  have := hc got; have := hc asked; have := hc now
  unfold ageL; omega
/-- May an entry be used? -/
def judgeL (c : Ct) (l : List Fld) (st asked got : Int) (p : Pol) (now : Int) : Int :=
  if c.noCache = true ∨ (ctlL l).noCache = true ∨ (c.maxAge ≠ -1 ∧ c.maxAge < ageL l asked got now) ∨ (c.minFresh ≠ -1 ∧ lifeL l st got p - ageL l asked got now < c.minFresh) then 2
  else if 0 < lifeL l st got p - ageL l asked got now then 0
  else if (ctlL l).must = true ∨ 0 ≤ (ctlL l).sMaxAge then 2
  else if c.maxStale ≠ -1 ∧ -(lifeL l st got p - ageL l asked got now) ≤ c.maxStale then 1 else 2
theorem judge_bd (c : Ct) (l : List Fld) (st asked got : Int) (p : Pol) (now : Int) : 0 ≤ judgeL c l st asked got p now ∧ judgeL c l st asked got p now ≤ 2 := by
  unfold judgeL
  split
  · omega
  · split
    · omega
    · split
      · omega
      · split <;> omega
/-- An entry grows older by the seconds that pass. -/
theorem age_grows (l : List Fld) (asked got now more : Int) (h1 : 0 ≤ now) (h2 : got ≤ now) (h3 : 0 ≤ more) (h4 : now ≤ 68719476736) (h5 : more ≤ 68719476736) :
    ageL l asked got (now + more) = ageL l asked got now + more := by
  have e1 : clampL now 253402300799 = now := by unfold clampL; omega
  have e2 : clampL (now + more) 253402300799 = now + more := by unfold clampL; omega
  have e3 : clampL got 253402300799 ≤ now := by unfold clampL; omega
  unfold ageL
  rw [e1, e2]
  omega
theorem age_mono (l : List Fld) (asked got now more : Int) (h3 : 0 ≤ more) : ageL l asked got now ≤ ageL l asked got (now + more) := by
  have e2 : clampL now 253402300799 ≤ clampL (now + more) 253402300799 := by unfold clampL; omega
  unfold ageL
  omega
/-- What must be validated must be later, too. -/
theorem judge_mono (c : Ct) (l : List Fld) (st asked got : Int) (p : Pol) (now more : Int) (h : 0 ≤ more) : judgeL c l st asked got p now ≤ judgeL c l st asked got p (now + more) := by
  have hm := age_mono l asked got now more h
  unfold judgeL
  generalize ageL l asked got now = a at *
  generalize ageL l asked got (now + more) = b at *
  generalize lifeL l st got p = f at *
  by_cases hB : c.noCache = true ∨ (ctlL l).noCache = true ∨ (c.maxAge ≠ -1 ∧ c.maxAge < b) ∨ (c.minFresh ≠ -1 ∧ f - b < c.minFresh)
  · rw [if_pos hB]
    split
    · omega
    · split
      · omega
      · split
        · omega
        · split <;> omega
  · have hA : ¬ (c.noCache = true ∨ (ctlL l).noCache = true ∨ (c.maxAge ≠ -1 ∧ c.maxAge < a) ∨ (c.minFresh ≠ -1 ∧ f - a < c.minFresh)) := by
      intro h1
      apply hB
      rcases h1 with h1 | h1 | h1 | h1
      · exact .inl h1
      · exact .inr (.inl h1)
      · exact .inr (.inr (.inl ⟨h1.1, by omega⟩))
      · exact .inr (.inr (.inr ⟨h1.1, by omega⟩))
    rw [if_neg hA, if_neg hB]
    by_cases h1 : 0 < f - a
    · rw [if_pos h1]
      split
      · omega
      · split
        · omega
        · split <;> omega
    · rw [if_neg h1, if_neg (by omega : ¬ 0 < f - b)]
      by_cases h2 : (ctlL l).must = true ∨ 0 ≤ (ctlL l).sMaxAge
      · rw [if_pos h2, if_pos h2]; omega
      · rw [if_neg h2, if_neg h2]
        by_cases h3 : c.maxStale ≠ -1 ∧ -(f - b) ≤ c.maxStale
        · rw [if_pos h3, if_pos ⟨h3.1, by omega⟩]; omega
        · rw [if_neg h3]; split <;> omega
/-- What is served. -/
theorem judge_inv {c : Ct} {l : List Fld} {st asked got : Int} {p : Pol} {now : Int} (h : judgeL c l st asked got p now ≠ 2) :
    c.noCache = false ∧ (ctlL l).noCache = false ∧ ¬ (c.maxAge ≠ -1 ∧ c.maxAge < ageL l asked got now) ∧ ¬ (c.minFresh ≠ -1 ∧ lifeL l st got p - ageL l asked got now < c.minFresh) ∧
    (judgeL c l st asked got p now = 0 → ageL l asked got now < lifeL l st got p) ∧
    (judgeL c l st asked got p now ≠ 0 → lifeL l st got p ≤ ageL l asked got now ∧ (ctlL l).must = false ∧ (ctlL l).sMaxAge < 0 ∧ ageL l asked got now - lifeL l st got p ≤ c.maxStale) := by
  unfold judgeL at *
  generalize ageL l asked got now = a at *
  generalize lifeL l st got p = f at *
  by_cases hB : c.noCache = true ∨ (ctlL l).noCache = true ∨ (c.maxAge ≠ -1 ∧ c.maxAge < a) ∨ (c.minFresh ≠ -1 ∧ f - a < c.minFresh)
  · rw [if_pos hB] at h; exact absurd rfl h
  · rw [if_neg hB] at *
    refine ⟨by simpa using fun e => hB (.inl e), by simpa using fun e => hB (.inr (.inl e)), fun e => hB (.inr (.inr (.inl e))), fun e => hB (.inr (.inr (.inr e))), ?_, ?_⟩
    · intro h0
      by_cases h1 : 0 < f - a
      · omega
      · rw [if_neg h1] at h0
        split at h0
        · omega
        · split at h0 <;> omega
    · intro h0
      by_cases h1 : 0 < f - a
      · rw [if_pos h1] at h0; exact absurd rfl h0
      · rw [if_neg h1] at h
        by_cases h2 : (ctlL l).must = true ∨ 0 ≤ (ctlL l).sMaxAge
        · rw [if_pos h2] at h; exact absurd rfl h
        · rw [if_neg h2] at h
          by_cases h3 : c.maxStale ≠ -1 ∧ -(f - a) ≤ c.maxStale
          · exact ⟨by omega, by simpa using fun e => h2 (.inl e), Int.not_le.1 fun e => h2 (.inr e), by omega⟩
          · rw [if_neg h3] at h; exact absurd rfl h
/-- An entry but for its place. -/
structure Ent where
  key : List UInt8
  vary : List UInt8
  st : Int
  rs : List UInt8
  mi : Int
  l : List Fld
  b : List UInt8
  asked : Int
  got : Int
def I64 (n : Int) : Prop := -9223372036854775808 ≤ n ∧ n ≤ 9223372036854775807
def Ent.ok (e : Ent) (b : Nat) : Prop := (e.key.length ≤ b ∧ e.vary.length ≤ b) ∧ I64 e.st ∧ e.rs.length ≤ b ∧ (∀ f ∈ e.l, f.1.length ≤ b ∧ f.2.length ≤ b) ∧ I64 e.asked ∧ I64 e.got
def ctOK (c : Ct) : Prop := I64 c.maxAge ∧ I64 c.sMaxAge ∧ I64 c.minFresh ∧ I64 c.maxStale
end Frs
def polV (p : Frs.Pol) : Value := .agg #[.int .i64 p.mn, .int .i64 p.pc, .int .i64 p.mx, .int .i64 p.ng]
def entV (e : Frs.Ent) (A : Option Addr) (n c : Nat) (B : Option Addr) (m k : Nat) : Value := .agg #[.string (bs e.key), .string (bs e.vary), .int .i64 e.st, .string (bs e.rs), .int .i64 e.mi, .slice A n c, .slice B m k, .int .i64 e.asked, .int .i64 e.got]
end Go.Proofs.YtfhkgbimnfjfhaaGreatDoor
