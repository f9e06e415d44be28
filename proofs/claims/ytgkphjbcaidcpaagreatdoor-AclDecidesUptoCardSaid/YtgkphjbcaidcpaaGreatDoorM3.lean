/- Joined texts: Numbers of one to 18 digits, and the length that all elements tell, as functions on lists of bytes; The civil calendar in plain integers: days of months, days before a year, the count from March and its inverse. The conditions stand in each line. -/
import Derived.Test.YtgkphjbcaidcpaaGreatDoorM2
import Derived.Lib.Atoi
set_option linter.unusedVariables false
set_option linter.unusedSimpArgs false
namespace Go.Proofs.YtgkphjbcaidcpaaGreatDoor
open Go.RowKit

def digB (b : UInt8) : Bool := decide (48 ≤ b.toNat ∧ b.toNat ≤ 57)
theorem digitVal_yes {b : UInt8} (h : digB b = true) : Lib.digitVal b = some (b.toNat - 48) := by unfold Lib.digitVal; rw [if_pos (of_decide_eq_true h)]
theorem digitVal_no {b : UInt8} (h : digB b = false) : Lib.digitVal b = none := by unfold Lib.digitVal; rw [if_neg (of_decide_eq_false h)]
/-- The number of one to 18 digits; -1: it is none. -/
def numL (s : List UInt8) : Int := if s.length ≤ 18 then (match Lib.decNat s with | some n => (n : Int) | none => -1) else -1
theorem decFrom_all : ∀ (s : List UInt8) (a : Nat), s.all digB = true → ∃ n, Lib.decFrom a s = some n ∧ n < (a + 1) * 10 ^ s.length
  | [], a, _ => ⟨a, rfl, by simp⟩
  | b :: r, a, h => by
    simp only [List.all_cons, Bool.and_eq_true] at h
    have hb := of_decide_eq_true h.1
    obtain ⟨n, h1, h2⟩ := decFrom_all r (a * 10 + (b.toNat - 48)) h.2
    refine ⟨n, ?_, ?_⟩
    · rw [Lib.decFrom, digitVal_yes h.1]; exact h1
    · refine Nat.lt_of_lt_of_le h2 ?_
      rw [List.length_cons, Nat.pow_succ, Nat.mul_comm (10 ^ r.length) 10, ← Nat.mul_assoc]
      exact Nat.mul_le_mul_right _ (by omega)
theorem decFrom_none : ∀ (s : List UInt8) (a : Nat), s.all digB = false → Lib.decFrom a s = none
  | [], a, h => by simp at h
  | b :: r, a, h => by
    rw [Lib.decFrom]
    cases hb : digB b
    · rw [digitVal_no hb]
    · rw [digitVal_yes hb]
      exact decFrom_none r _ (by simpa [hb] using h)
theorem numL_bad_len {s : List UInt8} (h : 18 < s.length) : numL s = -1 := by unfold numL; rw [if_neg (by omega)]
theorem numL_bad {s : List UInt8} (h : s.all digB = false) : numL s = -1 := by
  unfold numL Lib.decNat
  split
  · cases s with
    | nil => rfl
    | cons b r => simp only [List.isEmpty_cons, Bool.false_eq_true, if_false]; rw [decFrom_none _ _ h]
  · rfl
theorem numL_nil : numL [] = -1 := rfl
theorem numL_good {s : List UInt8} (h : s.all digB = true) (h1 : s ≠ []) (h2 : s.length ≤ 18) : ∃ n : Nat, numL s = (n : Int) ∧ n < 1000000000000000000 ∧ Lib.decFrom 0 s = some n ∧ Lib.atoi s = some (n : Int) := by
  obtain ⟨n, e, hn⟩ := decFrom_all s 0 h
  have hlt : n < 1000000000000000000 := by
    have h18 := Nat.lt_of_lt_of_le hn (show (0 + 1) * 10 ^ s.length ≤ 10 ^ 18 by rw [Nat.zero_add, Nat.one_mul]; exact Nat.pow_le_pow_right (by omega) h2)
    have e18 : (10 : Nat) ^ 18 = 1000000000000000000 := by simp
    rwa [e18] at h18
  have hd : Lib.decNat s = some n := by
    unfold Lib.decNat
    cases s with
    | nil => exact absurd rfl h1
    | cons b r => exact e
  refine ⟨n, by unfold numL; rw [if_pos h2, hd], hlt, e, ?_⟩
  cases s with
  | nil => exact absurd rfl h1
  | cons b r =>
    have hb := of_decide_eq_true (by simp only [List.all_cons, Bool.and_eq_true] at h; exact h.1 : digB b = true)
    have n1 : (b == 45) = false := by rw [beq_eq_false_iff_ne]; rintro rfl; exact absurd hb.1 (by decide)
    have n2 : (b == 43) = false := by rw [beq_eq_false_iff_ne]; rintro rfl; exact absurd hb.1 (by decide)
    rw [Lib.atoi, n1, n2]
    simp only [Bool.false_eq_true, if_false]
    rw [hd]; rfl
/-- What is left of a text without digits at its ends is empty just where all are digits. -/
def digS : List UInt8 := [48, 49, 50, 51, 52, 53, 54, 55, 56, 57]
theorem digS_contains (b : UInt8) : digS.contains b = digB b := by
  have h := b.toNat_lt
  unfold digS digB
  rw [Bool.eq_iff_iff, decide_eq_true_iff, List.contains_iff_mem]
  simp only [List.mem_cons, List.not_mem_nil, or_false]
  constructor
  · rintro (rfl | rfl | rfl | rfl | rfl | rfl | rfl | rfl | rfl | rfl) <;> decide
  · rintro ⟨h1, h2⟩
    have hb : ∀ k : Nat, b.toNat = k → k < 256 → b = UInt8.ofNat k := fun k e hk => UInt8.toNat_inj.1 (by rw [e]; simp; omega)
    have : b.toNat = 48 ∨ b.toNat = 49 ∨ b.toNat = 50 ∨ b.toNat = 51 ∨ b.toNat = 52 ∨ b.toNat = 53 ∨ b.toNat = 54 ∨ b.toNat = 55 ∨ b.toNat = 56 ∨ b.toNat = 57 := by omega
    rcases this with e | e | e | e | e | e | e | e | e | e <;> rw [hb _ e (by omega)] <;> decide
theorem trimDig_nil {s : List UInt8} (h : s.all digB = true) : Lib.trimS s digS = [] := by
  have hdw : ∀ l : List UInt8, l.all digB = true → l.dropWhile (fun b => digS.contains b) = [] := by
    intro l
    induction l with
    | nil => intro _; rfl
    | cons x r ih =>
      intro h
      simp only [List.all_cons, Bool.and_eq_true] at h
      rw [List.dropWhile_cons, if_pos (by rw [digS_contains]; exact h.1)]; exact ih h.2
  unfold Lib.trimS Lib.trimRightS Lib.trimLeftS
  rw [hdw s.reverse (by rw [List.all_reverse]; exact h)]; rfl
theorem trimDig_some {s : List UInt8} (h : s.all digB = false) : Lib.trimS s digS ≠ [] := by
  have hdw : ∀ l : List UInt8, l.all digB = false → ∃ b r, l.dropWhile (fun b => digS.contains b) = b :: r ∧ digB b = false := by
    intro l
    induction l with
    | nil => intro h; simp at h
    | cons x r ih =>
      intro h
      cases hx : digB x
      · exact ⟨x, r, by rw [List.dropWhile_cons, if_neg (by rw [digS_contains, hx]; decide)], hx⟩
      · obtain ⟨b, r2, e1, e2⟩ := ih (by simpa [hx] using h)
        exact ⟨b, r2, by rw [List.dropWhile_cons, if_pos (by rw [digS_contains, hx])]; exact e1, e2⟩
  intro he
  obtain ⟨b, r, e1, e2⟩ := hdw s.reverse (by rw [List.all_reverse]; exact h)
  unfold Lib.trimS Lib.trimRightS Lib.trimLeftS at he
  rw [e1] at he
  obtain ⟨b3, r3, e3, _⟩ := hdw (b :: r).reverse (by rw [List.all_reverse, List.all_cons, e2]; rfl)
  rw [e3] at he; cases he

/-- What all elements tell: the number and the error. -/
def lenL (E : List (List UInt8)) : Int × Int := match E with
  | [] => (0, 60)
  | x :: _ => if (E.all fun y => decide (0 ≤ numL y) && (numL y == numL x)) = true then (if numL x > 65536 then (0, 71) else (numL x, 0)) else (0, 60)
theorem lenL_bad {E : List (List UInt8)} {y : List UInt8} (h : y ∈ E) (hb : numL y < 0) : lenL E = (0, 60) := by
  unfold lenL
  cases E with
  | nil => rfl
  | cons x r =>
    simp only
    rw [if_neg]
    intro ha
    have := List.all_eq_true.1 ha y h
    simp at this; omega
theorem lenL_unlike {E : List (List UInt8)} {y z : List UInt8} (hy : y ∈ E) (hz : z ∈ E) (hb : numL y ≠ numL z) : lenL E = (0, 60) := by
  unfold lenL
  cases E with
  | nil => rfl
  | cons x r =>
    simp only
    rw [if_neg]
    intro ha
    have h1 := List.all_eq_true.1 ha y hy
    have h2 := List.all_eq_true.1 ha z hz
    simp at h1 h2
    exact hb (by rw [h1.2, h2.2])
/-- All elements so far tell this number; -1: there was none. -/
def toldL (E : List (List UInt8)) (v : Int) : Prop := (E = [] ∧ v = -1) ∨ (E ≠ [] ∧ 0 ≤ v ∧ ∀ y ∈ E, numL y = v)
theorem lenL_told {E : List (List UInt8)} {v : Int} (h : toldL E v) : lenL E = if v < 0 then (0, 60) else if v > 65536 then (0, 71) else (v, 0) := by
  rcases h with ⟨rfl, rfl⟩ | ⟨hne, h0, ha⟩
  · rfl
  · cases E with
    | nil => exact absurd rfl hne
    | cons x r =>
      have hx := ha x (by simp)
      rw [if_neg (by omega)]
      unfold lenL
      simp only
      rw [if_pos, hx]
      rw [List.all_eq_true]
      intro y hy
      simp [ha y hy, hx, h0]
theorem toldL_snoc {E : List (List UInt8)} {v : Int} {y : List UInt8} (h : toldL E v) (h0 : 0 ≤ numL y) (hv : v < 0 ∨ v = numL y) : toldL (E ++ [y]) (numL y) := by
  refine .inr ⟨by simp, h0, fun z hz => ?_⟩
  rcases List.mem_append.1 hz with hz | hz
  · rcases h with ⟨rfl, _⟩ | ⟨_, h2, h3⟩
    · cases hz
    · rw [h3 z hz]; omega
  · rw [List.mem_singleton.1 hz]
theorem toldL_mem {E : List (List UInt8)} {v : Int} (h : toldL E v) (h0 : 0 ≤ v) : ∃ y, y ∈ E ∧ numL y = v := by
  rcases h with ⟨_, rfl⟩ | ⟨hne, _, ha⟩
  · omega
  · cases E with
    | nil => exact absurd rfl hne
    | cons x r => exact ⟨x, by simp, ha x (by simp)⟩
/-- The elements of values. -/
def elemsV (V : List (List UInt8)) : List (List UInt8) := (V.map listL).flatten
theorem elemsV_snoc {V : List (List UInt8)} {k : Nat} {x : List UInt8} (h : V[k]? = some x) : elemsV (V.take (k + 1)) = elemsV (V.take k) ++ listL x := by
  unfold elemsV; rw [take_snoc? h]; simp
theorem elemsV_mem {V : List (List UInt8)} {k j : Nat} {x y : List UInt8} (h : V[k]? = some x) (h2 : (listL x)[j]? = some y) : y ∈ elemsV V := by
  unfold elemsV
  exact List.mem_flatten.2 ⟨listL x, List.mem_map.2 ⟨x, mem_of_get? h, rfl⟩, mem_of_get? h2⟩
theorem listL_ne {x y : List UInt8} {j : Nat} (h : (listL x)[j]? = some y) : y ≠ [] := by
  have := (List.mem_filter.1 (mem_of_get? h)).2
  rintro rfl; simp at this
theorem elemsV_take {V : List (List UInt8)} {k : Nat} {y : List UInt8} (h : y ∈ elemsV (V.take k)) : y ∈ elemsV V := by
  unfold elemsV at *
  obtain ⟨l, hl, hy⟩ := List.mem_flatten.1 h
  obtain ⟨x, hx, rfl⟩ := List.mem_map.1 hl
  exact List.mem_flatten.2 ⟨listL x, List.mem_map.2 ⟨x, List.mem_of_mem_take hx, rfl⟩, hy⟩
end Go.Proofs.YtgkphjbcaidcpaaGreatDoor
set_option linter.unusedVariables false
set_option linter.unusedSimpArgs false
namespace Go.Proofs.YtgkphjbcaidcpaaGreatDoor
namespace Cal
def yoe (e : Int) : Int := (e - e / 1460 + e / 36524 - e / 146096) / 365
def doy (e : Int) : Int := e - (365 * yoe e + yoe e / 4 - yoe e / 100)
theorem yoe_bd (e : Int) (h0 : 0 ≤ e) (h1 : e ≤ 146096) : 0 ≤ yoe e ∧ yoe e ≤ 399 := by
  unfold yoe; omega
/-- by pieces: century c, four-year block q, year k, day r. -/
theorem parts (e : Int) (h0 : 0 ≤ e) (h1 : e ≤ 146096) : ∃ c q k r : Int, e = 36524 * c + 1461 * q + 365 * k + r ∧ 0 ≤ c ∧ c ≤ 3 ∧ 0 ≤ q ∧ q ≤ 24 ∧ 0 ≤ k ∧ k ≤ 3 ∧ 0 ≤ r ∧ r ≤ 365 ∧ (r = 365 → k = 3 ∧ (q ≤ 23 ∨ c = 3)) := by
  refine ⟨(e - e/146096) / 36524, (e - 36524 * ((e - e/146096) / 36524)) / 1461, (e - 36524 * ((e - e/146096) / 36524) - 1461 * ((e - 36524 * ((e - e/146096) / 36524)) / 1461) - (e - 36524 * ((e - e/146096) / 36524) - 1461 * ((e - 36524 * ((e - e/146096) / 36524)) / 1461)) / 1460) / 365, _, (by rw [Int.add_comm]; exact (Int.sub_add_cancel _ _).symm), ?_⟩
  omega
theorem yoe_parts (c q k r : Int) (hc : 0 ≤ c) (hc3 : c ≤ 3) (hq : 0 ≤ q) (hq4 : q ≤ 24) (hk : 0 ≤ k) (hk3 : k ≤ 3) (hr : 0 ≤ r) (hr5 : r ≤ 365) (h : r = 365 → k = 3 ∧ (q ≤ 23 ∨ c = 3)) :
    yoe (36524 * c + 1461 * q + 365 * k + r) = 100 * c + 4 * q + k := by
  unfold yoe
  generalize he : 36524 * c + 1461 * q + 365 * k + r = e
  have hd : e / 1460 = 25 * c + q ∨ e / 1460 = 25 * c + q + 1 := by omega
  have hf : e / 36524 = c ∨ e / 36524 = c + 1 := by omega
  have hg : e / 146096 = 0 ∨ e / 146096 = 1 := by omega
  rcases hd with hd | hd <;> rcases hf with hf | hf <;> rcases hg with hg | hg <;> rw [hd, hf, hg] <;> omega

def lp (y : Int) : Int := if y % 4 = 0 ∧ (y % 100 ≠ 0 ∨ y % 400 = 0) then 1 else 0
def len (y m : Int) : Int := if m = 2 then 28 + lp y else if m = 4 ∨ m = 6 ∨ m = 9 ∨ m = 11 then 30 else 31
def dby (y : Int) : Int := 365 * (y - 1970) + (y - 1) / 4 - (y - 1) / 100 + (y - 1) / 400 - 477
def cum (m : Int) : Int := if m = 1 then 0 else if m = 2 then 31 else if m = 3 then 59 else if m = 4 then 90 else if m = 5 then 120 else if m = 6 then 151 else if m = 7 then 181 else if m = 8 then 212 else if m = 9 then 243 else if m = 10 then 273 else if m = 11 then 304 else if m = 12 then 334 else 365
def dbm (y m : Int) : Int := cum m + if 2 < m then lp y else 0
def num (y m d : Int) : Int := dby y + dbm y m + d - 1
def valid (y m d : Int) : Prop := 1970 ≤ y ∧ y ≤ 9999 ∧ 1 ≤ m ∧ m ≤ 12 ∧ 1 ≤ d ∧ d ≤ len y m

theorem lp_bd (y : Int) : 0 ≤ lp y ∧ lp y ≤ 1 := by unfold lp; split <;> omega
theorem dby_succ (y : Int) : dby (y + 1) = dby y + 365 + lp y := by unfold dby lp; split <;> omega
theorem dbm_succ (y m : Int) (h1 : 1 ≤ m) (h2 : m ≤ 11) : dbm y (m + 1) = dbm y m + len y m := by
  have : m = 1 ∨ m = 2 ∨ m = 3 ∨ m = 4 ∨ m = 5 ∨ m = 6 ∨ m = 7 ∨ m = 8 ∨ m = 9 ∨ m = 10 ∨ m = 11 := by omega
  rcases this with rfl | rfl | rfl | rfl | rfl | rfl | rfl | rfl | rfl | rfl | rfl <;> simp [dbm, cum, len] <;> omega
theorem dbm_one (y : Int) : dbm y 1 = 0 := by simp [dbm, cum]
theorem dbm_last (y : Int) : dbm y 12 + len y 12 = 365 + lp y := by simp [dbm, cum, len]; omega
theorem len_bd (y m : Int) : 28 ≤ len y m ∧ len y m ≤ 31 := by have := lp_bd y; unfold len; (repeat' split) <;> omega
theorem dbm_mono (y m m' : Int) (h1 : 1 ≤ m) (h2 : m < m') (h3 : m' ≤ 12) : dbm y m + len y m ≤ dbm y m' := by
  have e := lp_bd y
  have a : m = 1 ∨ m = 2 ∨ m = 3 ∨ m = 4 ∨ m = 5 ∨ m = 6 ∨ m = 7 ∨ m = 8 ∨ m = 9 ∨ m = 10 ∨ m = 11 := by omega
  have b : m' = 2 ∨ m' = 3 ∨ m' = 4 ∨ m' = 5 ∨ m' = 6 ∨ m' = 7 ∨ m' = 8 ∨ m' = 9 ∨ m' = 10 ∨ m' = 11 ∨ m' = 12 := by omega
  rcases a with rfl | rfl | rfl | rfl | rfl | rfl | rfl | rfl | rfl | rfl | rfl <;> rcases b with rfl | rfl | rfl | rfl | rfl | rfl | rfl | rfl | rfl | rfl | rfl <;> simp [dbm, cum, len] at h2 ⊢ <;> omega
theorem dbm_top (y m : Int) (h1 : 1 ≤ m) (h3 : m ≤ 12) : dbm y m + len y m ≤ 365 + lp y := by
  have e := lp_bd y
  have a : m = 1 ∨ m = 2 ∨ m = 3 ∨ m = 4 ∨ m = 5 ∨ m = 6 ∨ m = 7 ∨ m = 8 ∨ m = 9 ∨ m = 10 ∨ m = 11 ∨ m = 12 := by omega
  rcases a with rfl | rfl | rfl | rfl | rfl | rfl | rfl | rfl | rfl | rfl | rfl | rfl <;> simp [dbm, cum, len] <;> omega
theorem dite_nn {p : Prop} [Decidable p] {a b : Int} (ha : 0 ≤ a) (hb : 0 ≤ b) : 0 ≤ if p then a else b := by split <;> assumption
theorem cum_nn (m : Int) : 0 ≤ cum m := by
  unfold cum
  iterate 12 (refine dite_nn ?_ ?_ <;> try decide)
theorem dbm_nn (y m : Int) : 0 ≤ dbm y m := by
  have e := lp_bd y
  have c := cum_nn m
  unfold dbm; split <;> omega
theorem dby_mono (y y' : Int) (h : y < y') : dby y + 365 + lp y ≤ dby y' := by
  rw [← dby_succ]; unfold dby; omega
theorem num_inj (y m d y' m' d' : Int) (h : valid y m d) (h' : valid y' m' d') (e : num y m d = num y' m' d') : y = y' ∧ m = m' ∧ d = d' := by
  obtain ⟨a1, a2, a3, a4, a5, a6⟩ := h
  obtain ⟨b1, b2, b3, b4, b5, b6⟩ := h'
  unfold num at e
  have t := dbm_top y m a3 a4
  have t' := dbm_top y' m' b3 b4
  have n1 := dbm_nn y m
  have n2 := dbm_nn y' m'
  have hy : y = y' := by
    rcases Int.lt_trichotomy y y' with g | g | g
    · have := dby_mono y y' g; omega
    · exact g
    · have := dby_mono y' y g; omega
  subst hy
  have hm : m = m' := by
    rcases Int.lt_trichotomy m m' with g | g | g
    · have := dbm_mono y m m' a3 g b4; omega
    · exact g
    · have := dbm_mono y m' m b3 g a4; omega
  subst hm
  exact ⟨rfl, rfl, by omega⟩

/-- The program's own count. -/
def fc (y m d : Int) : Int :=
  let t := if m ≤ 2 then y - 1 else y
  t / 400 * 146097 + (t - t / 400 * 400) * 365 + (t - t / 400 * 400) / 4 - (t - t / 400 * 400) / 100 + ((153 * ((m + 9) % 12) + 2) / 5 + d - 1) - 719468
theorem march (t : Int) : t / 400 * 146097 + (t - t / 400 * 400) * 365 + (t - t / 400 * 400) / 4 - (t - t / 400 * 400) / 100 = 365 * t + t / 4 - t / 100 + t / 400 := by omega
theorem fc_num (y m d : Int) (h1 : 1 ≤ m) (h2 : m ≤ 12) : fc y m d = num y m d := by
  have a : m = 1 ∨ m = 2 ∨ m = 3 ∨ m = 4 ∨ m = 5 ∨ m = 6 ∨ m = 7 ∨ m = 8 ∨ m = 9 ∨ m = 10 ∨ m = 11 ∨ m = 12 := by omega
  simp only [fc, march]
  unfold num dby dbm cum lp
  rcases a with rfl | rfl | rfl | rfl | rfl | rfl | rfl | rfl | rfl | rfl | rfl | rfl <;> simp <;> (try split) <;> omega

def tcM (e : Int) : Int := ((5 * doy e + 2) / 153 + 2) % 12 + 1
def tcD (e : Int) : Int := doy e - (153 * ((5 * doy e + 2) / 153) + 2) / 5 + 1
def tcY (era e : Int) : Int := yoe e + era * 400 + if tcM e ≤ 2 then 1 else 0
theorem doy_bd (e : Int) (h0 : 0 ≤ e) (h1 : e ≤ 146096) : 0 ≤ doy e ∧ doy e ≤ 365 ∧ (doy e = 365 → yoe e % 4 = 3 ∧ (yoe e % 100 ≠ 99 ∨ yoe e = 399)) := by
  obtain ⟨c, q, k, r, he, h⟩ := parts e h0 h1
  have hy := yoe_parts c q k r (by omega) (by omega) (by omega) (by omega) (by omega) (by omega) (by omega) (by omega) (by omega)
  rw [← he] at hy
  unfold doy
  rw [hy]
  have h4 : (100 * c + 4 * q + k) / 4 = 25 * c + q := by omega
  have h100 : (100 * c + 4 * q + k) / 100 = c := by omega
  rw [h4, h100]
  omega
theorem tc_ok (era e : Int) (h0 : 0 ≤ e) (h1 : e ≤ 146096) : 1 ≤ tcM e ∧ tcM e ≤ 12 ∧ 1 ≤ tcD e ∧ tcD e ≤ len (tcY era e) (tcM e) ∧ fc (tcY era e) (tcM e) (tcD e) = era * 146097 + e - 719468 := by
  obtain ⟨d0, d1, d2⟩ := doy_bd e h0 h1
  obtain ⟨y0, y1⟩ := yoe_bd e h0 h1
  have hd : doy e = e - (365 * yoe e + yoe e / 4 - yoe e / 100) := rfl
  unfold tcY
  have hM : tcM e = ((5 * doy e + 2) / 153 + 2) % 12 + 1 := rfl
  have hD : tcD e = doy e - (153 * ((5 * doy e + 2) / 153) + 2) / 5 + 1 := rfl
  generalize tcM e = M at *
  generalize tcD e = D at *
  generalize doy e = o at *
  generalize yoe e = u at *
  have q4 : (u + era * 400) / 4 = u / 4 + era * 100 := by omega
  have q100 : (u + era * 400) / 100 = u / 100 + era * 4 := by omega
  have q400 : (u + era * 400) / 400 = era := by omega
  have hp : (5 * o + 2) / 153 = 0 ∨ (5 * o + 2) / 153 = 1 ∨ (5 * o + 2) / 153 = 2 ∨ (5 * o + 2) / 153 = 3 ∨ (5 * o + 2) / 153 = 4 ∨ (5 * o + 2) / 153 = 5 ∨ (5 * o + 2) / 153 = 6 ∨ (5 * o + 2) / 153 = 7 ∨ (5 * o + 2) / 153 = 8 ∨ (5 * o + 2) / 153 = 9 ∨ (5 * o + 2) / 153 = 10 ∨ (5 * o + 2) / 153 = 11 := by omega
  simp only [fc, march]
  unfold len lp
  rcases hp with g | g | g | g | g | g | g | g | g | g | g | g <;> rw [g] at hM hD <;> simp at hM hD <;> subst hM hD <;> simp [q4, q100, q400] <;> (repeat' split) <;> omega
def lpB (y : Int) : Bool := decide (y % 4 = 0 ∧ (y % 100 ≠ 0 ∨ y % 400 = 0))
theorem lp_yes {y : Int} (h : lpB y = true) : lp y = 1 := by unfold lpB at h; unfold lp; exact if_pos (of_decide_eq_true h)
theorem lp_no {y : Int} (h : lpB y = false) : lp y = 0 := by unfold lpB at h; unfold lp; exact if_neg (of_decide_eq_false h)
theorem dby_0 : dby 1970 = 0 := by decide
theorem dby_bd (y : Int) (h : 1970 ≤ y) (h' : y ≤ 10000) : 0 ≤ dby y ∧ dby y ≤ 2932897 := by unfold dby; omega
theorem dby_max : dby 10000 = 2932897 := by decide
instance (y m d : Int) : Decidable (valid y m d) := by unfold valid; infer_instance
theorem tc_all (n : Int) (h0 : 0 ≤ n) (h1 : n ≤ 3000000) : 1 ≤ tcM ((n + 719468) % 146097) ∧ tcM ((n + 719468) % 146097) ≤ 12 ∧ 1 ≤ tcD ((n + 719468) % 146097) ∧
    (n ≤ 2932896 → valid (tcY ((n + 719468) / 146097) ((n + 719468) % 146097)) (tcM ((n + 719468) % 146097)) (tcD ((n + 719468) % 146097))) ∧
    num (tcY ((n + 719468) / 146097) ((n + 719468) % 146097)) (tcM ((n + 719468) % 146097)) (tcD ((n + 719468) % 146097)) = n := by
  obtain ⟨a, b, c, d, e⟩ := tc_ok ((n + 719468) / 146097) ((n + 719468) % 146097) (by omega) (by omega)
  rw [fc_num _ _ _ a b] at e
  have e' : num (tcY ((n + 719468) / 146097) ((n + 719468) % 146097)) (tcM ((n + 719468) % 146097)) (tcD ((n + 719468) % 146097)) = n := by rw [e]; omega
  refine ⟨a, b, c, fun hn => ?_, e'⟩
  refine ⟨?_, ?_, a, b, c, d⟩
  · generalize tcY ((n + 719468) / 146097) ((n + 719468) % 146097) = Y at *
    generalize tcM ((n + 719468) % 146097) = M at *
    have t := dbm_top Y M a b
    unfold num at e'
    rcases Int.lt_or_le Y 1970 with g | g
    · have := dby_mono Y 1970 g
      have := dby_0
      omega
    · exact g
  · generalize tcY ((n + 719468) / 146097) ((n + 719468) % 146097) = Y at *
    generalize tcM ((n + 719468) % 146097) = M at *
    have t := dbm_nn Y M
    unfold num at e'
    rcases Int.lt_or_le 9999 Y with g | g
    · have := dby_mono 9999 Y g
      have := lp_bd 9999
      have h9 : dby 9999 + 365 + lp 9999 = 2932897 := by rw [← dby_succ]; decide
      omega
    · exact g
theorem tc_valid (n : Int) (h0 : 0 ≤ n) (h1 : n ≤ 3000000) : tcD ((n + 719468) % 146097) ≤ len (tcY ((n + 719468) / 146097) ((n + 719468) % 146097)) (tcM ((n + 719468) % 146097)) :=
  (tc_ok ((n + 719468) / 146097) ((n + 719468) % 146097) (by omega) (by omega)).2.2.2.1
end Cal
end Go.Proofs.YtgkphjbcaidcpaaGreatDoor
