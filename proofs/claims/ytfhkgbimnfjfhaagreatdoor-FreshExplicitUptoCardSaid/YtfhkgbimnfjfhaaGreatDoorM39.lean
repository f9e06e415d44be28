/- Joined texts: A told max-age, and an Expires behind a date, in plain Lean. The conditions stand in each line. -/
import Derived.Test.YtfhkgbimnfjfhaaGreatDoorM22
import Derived.Test.YtfhkgbimnfjfhaaGreatDoorM32
set_option linter.unusedVariables false
set_option linter.unusedSimpArgs false
namespace Go.Proofs.YtfhkgbimnfjfhaaGreatDoor
open Go.RowKit

set_option maxRecDepth 100000
namespace Frs
open Ctl
/-- A text without the bytes that count is one piece. -/
theorem pieces_plain (c : UInt8) : ∀ (s cur : List UInt8), (∀ b ∈ s, b ≠ 34 ∧ b ≠ c) → pieces c s false cur = [cur ++ s]
  | [], cur, _ => by simp [pieces]
  | [b], cur, h => by
    obtain ⟨h1, h2⟩ := h b (by simp)
    simp [pieces, h1, h2]
  | b :: d :: r, cur, h => by
    obtain ⟨h1, h2⟩ := h b (by simp)
    have ih := pieces_plain c (d :: r) (cur ++ [b]) (fun x hx => h x (by simp [hx]))
    simp only [pieces, Bool.false_and, Bool.false_eq_true, if_false, Bool.not_false, Bool.true_and]
    rw [if_neg (by simpa using h1), if_neg (by simpa using h2), ih]
    simp
theorem trim_plain {s : List UInt8} (hne : s ≠ []) (h0 : ∀ b, s[0]? = some b → blankB b = false) (h1 : ∀ b, s[s.length - 1]? = some b → blankB b = false) : trimL s = s := by
  have hl : 0 < s.length := List.length_pos_iff.2 hne
  rw [trimL_at s 0 s.length (by omega) (by omega) (fun j b hj => by omega) (fun j b hj h => by rw [List.getElem?_eq_none hj] at h; cases h) (fun _ => ⟨h0, h1⟩) (fun h => by omega)]
  simp
theorem dec_isD : ∀ (n : Nat), ∀ b ∈ Lib.decDigits n, Dt.isD b = true := by
  intro n
  induction n using Nat.strongRecOn with
  | _ n ih =>
    intro b hb
    rw [Lib.decDigits] at hb
    have hd : ∀ k, k < 10 → Dt.isD (UInt8.ofNat (48 + k)) = true := fun k hk => by
      have e : (UInt8.ofNat (48 + k)).toNat = 48 + k := by rw [UInt8.toNat_ofNat']; omega
      unfold Dt.isD
      rw [e]; simp; omega
    split at hb
    · rw [List.mem_singleton] at hb; subst hb; exact hd n (by omega)
    · rw [List.mem_append] at hb
      rcases hb with hb | hb
      · exact ih (n / 10) (by omega) b hb
      · rw [List.mem_singleton] at hb; subst hb; exact hd (n % 10) (by omega)
theorem dec_ne (n : Nat) : Lib.decDigits n ≠ [] := by
  rw [Lib.decDigits]; split <;> simp
theorem dec_sec : ∀ (n : Nat), (n : Int) ≤ 2147483648 → (Lib.decDigits n).foldl secF 0 = n := by
  intro n
  induction n using Nat.strongRecOn with
  | _ n ih =>
    intro hn
    rw [Lib.decDigits]
    have hd : ∀ k, k < 10 → (UInt8.ofNat (48 + k)).toNat = 48 + k := fun k hk => by rw [UInt8.toNat_ofNat']; omega
    split
    · have := hd n (by omega)
      simp only [List.foldl_cons, List.foldl_nil]
      unfold secF
      rw [this, if_neg (by omega)]; omega
    · rw [List.foldl_append, ih (n / 10) (by omega) (by omega)]
      have := hd (n % 10) (by omega)
      simp only [List.foldl_cons, List.foldl_nil]
      unfold secF
      rw [this, if_neg (by omega)]; omega
theorem sec_dec {n : Nat} (h : (n : Int) ≤ 2147483648) : secL (Lib.decDigits n) = n := by
  unfold secL
  rw [if_neg, dec_sec n h]
  intro h2
  rcases h2 with h2 | h2
  · exact dec_ne n h2
  · rw [List.all_eq_true.2 (dec_isD n)] at h2; cases h2
abbrev maT : List UInt8 := [109, 97, 120, 45, 97, 103, 101, 61]
abbrev l1 (D : List UInt8) : List Fld := [(ExpN, [120]), (ccN, maT ++ D)]
theorem l1_vals (D : List UInt8) : valuesL (l1 D) ccN = [maT ++ D] := by
  unfold valuesL l1
  have e1 : isB (ExpN, [120]) ccN = false := by decide
  have e2 : isB (ccN, maT ++ D) ccN = true := by unfold isB; simp
  simp only [List.filter_cons, List.filter_nil, e1, e2, if_true, Bool.false_eq_true, if_false, List.map_cons, List.map_nil]
theorem l1_list {n : Nat} : listL (maT ++ Lib.decDigits n) = [maT ++ Lib.decDigits n] := by
  have hD := dec_isD n
  have hb : ∀ b ∈ maT ++ Lib.decDigits n, b ≠ 34 ∧ b ≠ 44 := by
    intro b hb
    rw [List.mem_append] at hb
    rcases hb with hb | hb
    · revert b; decide
    · have := Dt.isD_bd (hD b hb)
      constructor <;> (rintro rfl; simp at this)
  have hlast : ∀ b, (maT ++ Lib.decDigits n)[(maT ++ Lib.decDigits n).length - 1]? = some b → blankB b = false := by
    intro b hb
    have hn : 0 < (Lib.decDigits n).length := List.length_pos_iff.2 (dec_ne n)
    rw [List.length_append, List.getElem?_append_right (by omega)] at hb
    have := Dt.isD_bd (hD b (mem_of_get? hb))
    unfold blankB
    rw [Bool.or_eq_false_iff, beq_eq_false_iff_ne, beq_eq_false_iff_ne]
    constructor <;> (rintro rfl; simp at this)
  unfold listL splitL
  rw [pieces_plain 44 _ [] hb, List.nil_append, List.map_cons, List.map_nil, trim_plain (by simp) (fun b hb => by simp at hb; subst hb; rfl) hlast]
  simp
theorem l1_dir {n : Nat} : dirOf (maT ++ Lib.decDigits n) = (maxAgeN, Lib.decDigits n, true) := by
  have hc := Ur.cut_of (c := 61) (Lib.decDigits n) [109, 97, 120, 45, 97, 103, 101] (by decide)
  have e : maT ++ Lib.decDigits n = [109, 97, 120, 45, 97, 103, 101] ++ 61 :: Lib.decDigits n := rfl
  unfold dirOf
  rw [e]
  unfold Ur.cutB Ur.hasC
  rw [hc.1, hc.2]
  have hh : argT (Lib.decDigits n) = Lib.decDigits n := by
    unfold argT
    rw [if_neg]
    intro h
    have hm : (34 : UInt8) ∈ Lib.decDigits n := List.mem_of_mem_head? (by rw [h]; rfl)
    have := dec_isD n _ hm
    exact absurd this (by decide)
  rw [List.drop_one, List.tail_cons, hh]
  rfl
theorem l1_ctl {n : Nat} (h : (n : Int) ≤ 2147483648) : (ctlL (l1 (Lib.decDigits n))).sMaxAge = -1 ∧ (ctlL (l1 (Lib.decDigits n))).maxAge = n := by
  have hd : dirsV (valuesL (l1 (Lib.decDigits n)) ccN) = [(maxAgeN, Lib.decDigits n, true)] := by
    rw [l1_vals]
    unfold dirsV
    simp only [List.map_cons, List.map_nil, l1_list, l1_dir, List.flatten_cons, List.flatten_nil, List.append_nil]
  unfold ctlL ctD
  rw [hd]
  constructor
  · show numD [(maxAgeN, Lib.decDigits n, true)] sMaxN = -1
    unfold numD firstD
    rw [List.find?_cons_of_neg (by simp only; decide)]
    rfl
  · show numD [(maxAgeN, Lib.decDigits n, true)] maxAgeN = n
    unfold numD firstD
    rw [List.find?_cons_of_pos (by simp)]
    show (if secL (Lib.decDigits n) < 0 then 0 else secL (Lib.decDigits n)) = n
    rw [sec_dec h, if_neg (by omega)]
theorem l1_life {n : Nat} (h : (n : Int) ≤ 2147483648) (st got : Int) (p : Pol) : lifeL (l1 (Lib.decDigits n)) st got p = n := by
  obtain ⟨h1, h2⟩ := l1_ctl h
  unfold lifeL
  rw [h1, h2, if_neg (by decide), if_pos (by omega)]
theorem l1_len {n : Nat} (h : (n : Int) ≤ 2147483648) : FlenS (l1 (Lib.decDigits n)) := by
  have hl : (Lib.decDigits n).length ≤ 20 := dec_len (by omega)
  intro f hf
  simp only [l1, List.mem_cons, List.not_mem_nil, or_false] at hf
  rcases hf with rfl | rfl
  · constructor <;> decide
  · refine ⟨by show ccN.length ≤ 1048576; decide, ?_⟩
    show (maT ++ Lib.decDigits n).length ≤ 1048576
    rw [List.length_append]
    have : maT.length = 8 := rfl
    omega
theorem form_len (v : Int) : (Dt.form0 v).length = 29 := by
  obtain ⟨x0, x1, x2, hx⟩ := Dt.three (Dt.wk3_len _ (Dt.wd_lt (v / 86400)))
  obtain ⟨z0, z1, z2, hz⟩ := Dt.three (Dt.moN_len (Dt.cM (v / 86400)).toNat)
  unfold Dt.form0 Dt.f0; rw [hx, hz]; rfl
abbrev l2 (x y : List UInt8) : List Fld := [(DateN, x), (ExpN, y)]
theorem l2_cc (x y : List UInt8) : valuesL (l2 x y) ccN = [] := by
  unfold valuesL l2
  have e1 : isB (DateN, x) ccN = false := by unfold isB; show (fold DateN == fold ccN) = false; decide
  have e2 : isB (ExpN, y) ccN = false := by unfold isB; show (fold ExpN == fold ccN) = false; decide
  simp only [List.filter_cons, List.filter_nil, e1, e2, Bool.false_eq_true, if_false, List.map_nil]
theorem l2_date (x y : List UInt8) : valuesL (l2 x y) dateN = [x] := by
  unfold valuesL l2
  have e1 : isB (DateN, x) dateN = true := by unfold isB; show (fold DateN == fold dateN) = true; decide
  have e2 : isB (ExpN, y) dateN = false := by unfold isB; show (fold ExpN == fold dateN) = false; decide
  simp only [List.filter_cons, List.filter_nil, e1, e2, Bool.false_eq_true, if_false, if_true, List.map_nil, List.map_cons]
theorem l2_exp (x y : List UInt8) : valuesL (l2 x y) expN = [y] := by
  unfold valuesL l2
  have e1 : isB (DateN, x) expN = false := by unfold isB; show (fold DateN == fold expN) = false; decide
  have e2 : isB (ExpN, y) expN = true := by unfold isB; show (fold ExpN == fold expN) = true; decide
  simp only [List.filter_cons, List.filter_nil, e1, e2, Bool.false_eq_true, if_false, if_true, List.map_nil, List.map_cons]
theorem l2_life {a s : Int} (h0 : 0 ≤ a) (h1 : a ≤ 68719476736) (h2 : 0 ≤ s) (h3 : s ≤ 2147483648) (st got : Int) (p : Pol) : lifeL (l2 (Dt.form0 a) (Dt.form0 (a + s))) st got p = s := by
  have hc : (ctlL (l2 (Dt.form0 a) (Dt.form0 (a + s)))).sMaxAge = -1 ∧ (ctlL (l2 (Dt.form0 a) (Dt.form0 (a + s)))).maxAge = -1 := by
    unfold ctlL ctD
    rw [l2_cc]
    exact ⟨rfl, rfl⟩
  have ht : toldL (l2 (Dt.form0 a) (Dt.form0 (a + s))) expN = true := by unfold toldL; rw [l2_exp]; rfl
  have g1 : getL (l2 (Dt.form0 a) (Dt.form0 (a + s))) dateN = Dt.form0 a := by unfold getL; rw [l2_date, Lib.join_one]
  have g2 : getL (l2 (Dt.form0 a) (Dt.form0 (a + s))) expN = Dt.form0 (a + s) := by unfold getL; rw [l2_exp, Lib.join_one]
  have p1 : Dt.dparse (Dt.form0 a) = (a, 0) := Dt.dparse_form0 (by unfold Dt.inR; omega)
  have p2 : Dt.dparse (Dt.form0 (a + s)) = (a + s, 0) := Dt.dparse_form0 (by unfold Dt.inR; omega)
  have hb : bornL (l2 (Dt.form0 a) (Dt.form0 (a + s))) got = a := by
    unfold bornL momO momV
    rw [g1, p1]; rfl
  have hv : momV (l2 (Dt.form0 a) (Dt.form0 (a + s))) expN = a + s := by unfold momV; rw [g2, p2]
  unfold lifeL
  rw [hc.1, hc.2, if_neg (by decide), if_neg (by decide), if_pos ht, hb, hv]
  unfold clampL; omega
theorem l2_len (a b : Int) : FlenS (l2 (Dt.form0 a) (Dt.form0 b)) := by
  intro f hf
  simp only [l2, List.mem_cons, List.not_mem_nil, or_false] at hf
  rcases hf with rfl | rfl
  · exact ⟨by show DateN.length ≤ 1048576; decide, by show (Dt.form0 a).length ≤ 1048576; rw [form_len]; omega⟩
  · exact ⟨by show ExpN.length ≤ 1048576; decide, by show (Dt.form0 b).length ≤ 1048576; rw [form_len]; omega⟩
end Frs
end Go.Proofs.YtfhkgbimnfjfhaaGreatDoor
