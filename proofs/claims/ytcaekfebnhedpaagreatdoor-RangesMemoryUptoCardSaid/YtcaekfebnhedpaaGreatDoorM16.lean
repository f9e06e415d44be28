/- Joined texts: The reference's reading of a date in plain Lean, and that it answers what the scan answers; The second of a date's field in plain Lean. The conditions stand in each line. -/
import Derived.Test.YtcaekfebnhedpaaGreatDoorM8
import Derived.Test.YtcaekfebnhedpaaGreatDoorM15
set_option linter.unusedVariables false
set_option linter.unusedSimpArgs false
namespace Go.Proofs.YtcaekfebnhedpaaGreatDoor
namespace Dt
/-- digits: behind the number acc; the first one may be a blank. -/
def rdig (first : Bool) (acc : Int) : List UInt8 → Int
  | [] => acc
  | c :: r => if c.toNat = 32 ∧ first = true then rdig false (acc * 10) r else if c.toNat < 48 ∨ 57 < c.toNat then -1 else rdig false (acc * 10 + (c.toNat : Int) - 48) r
def piece (s : List UInt8) (a n : Nat) : List UInt8 := (s.drop a).take n
def digs (s : List UInt8) (a n : Nat) : Int := rdig true 0 (piece s a n)
theorem rdig_bd : ∀ (l : List UInt8) (f : Bool) (a : Int), 0 ≤ a → -1 ≤ rdig f a l ∧ rdig f a l < (a + 1) * 10 ^ l.length
  | [], f, a, h => by simp [rdig]; omega
  | c :: r, f, a, h => by
    have hp : (0 : Int) < 10 ^ r.length := Int.pow_pos (by omega)
    have hmono : ∀ b : Int, b + 1 ≤ (a + 1) * 10 → (b + 1) * 10 ^ r.length ≤ (a + 1) * 10 ^ (r.length + 1) := fun b hb => by
      rw [Int.pow_succ, Int.mul_comm (10 ^ r.length) 10, ← Int.mul_assoc]
      exact Int.mul_le_mul_of_nonneg_right hb (by omega)
    have hp2 : (0 : Int) < 10 ^ (r.length + 1) := Int.pow_pos (by omega)
    unfold rdig
    simp only [List.length_cons]
    split
    · have := rdig_bd r false (a * 10) (by omega)
      exact ⟨this.1, Int.lt_of_lt_of_le this.2 (hmono _ (by omega))⟩
    · split
      · refine ⟨by omega, ?_⟩
        have : 0 ≤ (a + 1) * 10 ^ (r.length + 1) := Int.mul_nonneg (by omega) (by omega)
        omega
      · have := rdig_bd r false (a * 10 + (c.toNat : Int) - 48) (by omega)
        exact ⟨this.1, Int.lt_of_lt_of_le this.2 (hmono _ (by omega))⟩
def monA (t : List UInt8) : Int := match monF t with | some i => (i : Int) + 1 | none => 0
def rdone (s : List UInt8) (y m d h mi se : Int) : Int × Int :=
  if Cal.valid y m d ∧ 0 ≤ h ∧ h ≤ 23 ∧ 0 ≤ mi ∧ mi ≤ 59 ∧ 0 ≤ se ∧ se ≤ 59 then
    (if s = form0 (Cal.num y m d * 86400 + h * 3600 + mi * 60 + se) ∨ s = form1 (Cal.num y m d * 86400 + h * 3600 + mi * 60 + se) ∨ s = form2 (Cal.num y m d * 86400 + h * 3600 + mi * 60 + se) then (Cal.num y m d * 86400 + h * 3600 + mi * 60 + se, 0) else (0, 20))
  else (0, 20)
def rpart (s : List UInt8) (d y : Int) (c mo : Nat) : Int × Int := rdone s y (monA (piece s mo 3)) d (digs s c 2) (digs s (c + 3) 2) (digs s (c + 6) 2)
def yy (y : Int) : Int := if 70 ≤ y then y + 1900 else if 0 ≤ y then y + 2000 else y
def rparse (s : List UInt8) : Int × Int :=
  if s.length = 29 then rpart s (digs s 5 2) (digs s 12 4) 17 8
  else if s.length = 24 then rpart s (digs s 8 2) (digs s 20 4) 11 4
  else if 30 ≤ s.length ∧ s.length ≤ 33 then rpart s (digs s (s.length - 22) 2) (yy (digs s (s.length - 22 + 7) 2)) (s.length - 22 + 10) (s.length - 22 + 3)
  else (0, 20)
theorem rdone_two (s : List UInt8) (y m d h mi se : Int) : (rdone s y m d h mi se).2 = 0 ∨ rdone s y m d h mi se = (0, 20) := by
  unfold rdone
  split
  · split
    · exact .inl rfl
    · exact .inr rfl
  · exact .inr rfl
theorem rdone_inv {s : List UInt8} {y m d h mi se v : Int} (hs : s ≠ []) (e : rdone s y m d h mi se = (v, 0)) : IsForm s v := by
  unfold rdone at e
  split at e
  · rename_i hc
    obtain ⟨hv, a1, a2, a3, a4, a5, a6⟩ := hc
    split at e
    · rename_i hf
      simp only [Prod.mk.injEq, and_true] at e
      subst e
      obtain ⟨b0, b1⟩ := num_bd2 hv
      refine ⟨⟨by omega, by omega⟩, ?_⟩
      rcases hf with h1 | h1 | h1
      · exact .inl h1
      · refine .inr (.inl ⟨?_, h1⟩)
        rcases Int.lt_or_le (cY ((Cal.num y m d * 86400 + h * 3600 + mi * 60 + se) / 86400)) 2070 with g | g
        · exact g
        · exfalso
          unfold form1 at h1
          rw [if_neg (by omega)] at h1
          exact hs h1
      · exact .inr (.inr h1)
    · simp at e
  · simp at e
theorem rparse_two (s : List UInt8) : (rparse s).2 = 0 ∨ rparse s = (0, 20) := by
  unfold rparse rpart
  split
  · exact rdone_two ..
  · split
    · exact rdone_two ..
    · split
      · exact rdone_two ..
      · exact .inr rfl
theorem rparse_inv {s : List UInt8} {v : Int} (e : rparse s = (v, 0)) : IsForm s v := by
  unfold rparse rpart at e
  split at e
  · rename_i h; exact rdone_inv (by rintro rfl; simp at h) e
  · split at e
    · rename_i h; exact rdone_inv (by rintro rfl; simp at h) e
    · split at e
      · rename_i h; exact rdone_inv (by rintro rfl; simp at h) e
      · simp at e
theorem rdig_pad2 {n : Int} (h0 : 0 ≤ n) (h1 : n < 100) : rdig true 0 (pad2 n) = n := by
  have a := dgt_nat n
  have b := dgt_nat (n / 10)
  unfold pad2 rdig rdig rdig
  rw [a, b]
  rw [if_neg (by omega), if_neg (by omega), if_neg (by simp), if_neg (by omega)]
  omega
theorem rdig_dd2 {n : Int} (h0 : 1 ≤ n) (h1 : n ≤ 31) : rdig true 0 (dd2 n) = n := by
  unfold dd2
  split
  · have a := dgt_nat n
    unfold rdig rdig rdig
    rw [a]
    rw [if_pos ⟨rfl, rfl⟩, if_neg (by simp), if_neg (by omega)]
    omega
  · exact rdig_pad2 (by omega) (by omega)
theorem rdig_pad4 {n : Int} (h0 : 0 ≤ n) (h1 : n < 10000) : rdig true 0 (pad4 n) = n := by
  have a := dgt_nat n
  have b := dgt_nat (n / 10)
  have c := dgt_nat (n / 100)
  have d := dgt_nat (n / 1000)
  unfold pad4 rdig rdig rdig rdig rdig
  rw [a, b, c, d]
  rw [if_neg (by omega), if_neg (by omega), if_neg (by simp), if_neg (by omega), if_neg (by simp), if_neg (by omega), if_neg (by simp), if_neg (by omega)]
  omega
theorem monA_moN {m : Int} (h1 : 1 ≤ m) (h2 : m ≤ 12) : monA (moN m.toNat) = m := by
  have := monF_moN ⟨(m - 1).toNat, by omega⟩
  rw [show (m - 1).toNat + 1 = m.toNat by omega] at this
  unfold monA
  rw [this]
  dsimp only
  omega
theorem rdone_ok {v : Int} (h : inR v) {s : List UInt8} (hs : s = form0 v ∨ s = form1 v ∨ s = form2 v) : rdone s (cY (v / 86400)) (cM (v / 86400)) (cD (v / 86400)) (v % 86400 / 3600) (v % 86400 / 60 % 60) (v % 86400 % 60) = (v, 0) := by
  obtain ⟨h0, h1, h2, h3, h4⟩ := day_bd h
  obtain ⟨c1, c2⟩ := civ h0 h1
  unfold rdone
  rw [if_pos ⟨c1, by omega, by omega, by omega, by omega, by omega, by omega⟩, c2]
  have e : v / 86400 * 86400 + v % 86400 / 3600 * 3600 + v % 86400 / 60 % 60 * 60 + v % 86400 % 60 = v := by omega
  rw [e, if_pos hs]
theorem three {l : List UInt8} (h : l.length = 3) : ∃ a b c, l = [a, b, c] := by
  match l, h with
  | [a, b, c], _ => exact ⟨a, b, c, rfl⟩
theorem wk3_len (i : Nat) (h : i < 7) : (wk3 i).length = 3 := (nm_comma ⟨i, h⟩).2.1
theorem dd2_len (d : Int) : (dd2 d).length = 2 := by unfold dd2; split <;> rfl
theorem two {l : List UInt8} (h : l.length = 2) : ∃ a b, l = [a, b] := by
  match l, h with
  | [a, b], _ => exact ⟨a, b, rfl⟩
theorem rparse_form0 {v : Int} (h : inR v) : rparse (form0 v) = (v, 0) := by
  obtain ⟨h0, h1, h2, h3, h4⟩ := day_bd h
  obtain ⟨⟨a1, a2, a3, a4, a5, a6⟩, -⟩ := civ h0 h1
  have hl := Cal.len_bd (cY (v / 86400)) (cM (v / 86400))
  have hd := rdone_ok h (.inl rfl)
  obtain ⟨x0, x1, x2, hx⟩ := three (wk3_len _ (wd_lt (v / 86400)))
  obtain ⟨z0, z1, z2, hz⟩ := three (moN_len (cM (v / 86400)).toNat)
  have hlen : (form0 v).length = 29 := by unfold form0 f0; rw [hx, hz]; rfl
  have e1 : piece (form0 v) 8 3 = moN (cM (v / 86400)).toNat := by unfold form0 f0; rw [hx, hz]; rfl
  have e2 : piece (form0 v) 5 2 = pad2 (cD (v / 86400)) := by unfold form0 f0; rw [hx, hz]; rfl
  have e3 : piece (form0 v) 12 4 = pad4 (cY (v / 86400)) := by unfold form0 f0; rw [hx, hz]; rfl
  have e4 : piece (form0 v) 17 2 = pad2 (v % 86400 / 3600) := by unfold form0 f0; rw [hx, hz]; rfl
  have e5 : piece (form0 v) 20 2 = pad2 (v % 86400 / 60 % 60) := by unfold form0 f0; rw [hx, hz]; rfl
  have e6 : piece (form0 v) 23 2 = pad2 (v % 86400 % 60) := by unfold form0 f0; rw [hx, hz]; rfl
  unfold rparse rpart digs
  rw [if_pos hlen, e1, e2, e3, e4, e5, e6, rdig_pad2 (by omega) (by omega), rdig_pad2 (by omega) (by omega), rdig_pad2 (by omega) (by omega), rdig_pad2 (by omega) (by omega), rdig_pad4 (by omega) (by omega), monA_moN a3 a4]
  exact hd
theorem rparse_form2 {v : Int} (h : inR v) : rparse (form2 v) = (v, 0) := by
  obtain ⟨h0, h1, h2, h3, h4⟩ := day_bd h
  obtain ⟨⟨a1, a2, a3, a4, a5, a6⟩, -⟩ := civ h0 h1
  have hl := Cal.len_bd (cY (v / 86400)) (cM (v / 86400))
  have hd := rdone_ok h (.inr (.inr rfl))
  obtain ⟨x0, x1, x2, hx⟩ := three (wk3_len _ (wd_lt (v / 86400)))
  obtain ⟨z0, z1, z2, hz⟩ := three (moN_len (cM (v / 86400)).toNat)
  obtain ⟨u0, u1, hu⟩ := two (dd2_len (cD (v / 86400)))
  have hlen : (form2 v).length = 24 := by unfold form2 f2; rw [hx, hz, hu]; rfl
  have e1 : piece (form2 v) 4 3 = moN (cM (v / 86400)).toNat := by unfold form2 f2; rw [hx, hz, hu]; rfl
  have e2 : piece (form2 v) 8 2 = dd2 (cD (v / 86400)) := by unfold form2 f2; rw [hx, hz, hu]; rfl
  have e3 : piece (form2 v) 20 4 = pad4 (cY (v / 86400)) := by unfold form2 f2; rw [hx, hz, hu]; rfl
  have e4 : piece (form2 v) 11 2 = pad2 (v % 86400 / 3600) := by unfold form2 f2; rw [hx, hz, hu]; rfl
  have e5 : piece (form2 v) 14 2 = pad2 (v % 86400 / 60 % 60) := by unfold form2 f2; rw [hx, hz, hu]; rfl
  have e6 : piece (form2 v) 17 2 = pad2 (v % 86400 % 60) := by unfold form2 f2; rw [hx, hz, hu]; rfl
  unfold rparse rpart digs
  rw [if_neg (by omega), if_pos hlen, e1, e2, e3, e4, e5, e6, rdig_pad2 (by omega) (by omega), rdig_pad2 (by omega) (by omega), rdig_pad2 (by omega) (by omega), rdig_dd2 (by omega) (by omega), rdig_pad4 (by omega) (by omega), monA_moN a3 a4]
  exact hd
theorem rparse_form1 {v : Int} (h : inR v) (hy : cY (v / 86400) < 2070) : rparse (form1 v) = (v, 0) := by
  obtain ⟨h0, h1, h2, h3, h4⟩ := day_bd h
  obtain ⟨⟨a1, a2, a3, a4, a5, a6⟩, -⟩ := civ h0 h1
  have hl := Cal.len_bd (cY (v / 86400)) (cM (v / 86400))
  have hd := rdone_ok h (.inr (.inl rfl))
  obtain ⟨z0, z1, z2, hz⟩ := three (moN_len (cM (v / 86400)).toNat)
  obtain ⟨-, -, -, w1, w2⟩ := nm_comma ⟨wd (v / 86400), wd_lt _⟩
  dsimp only at w1 w2
  have hf : form1 v = wkN (wd (v / 86400)) ++ ([44, 32] ++ pad2 (cD (v / 86400)) ++ [45] ++ moN (cM (v / 86400)).toNat ++ [45] ++ pad2 (cY (v / 86400) % 100) ++ [32] ++ hms (v % 86400) ++ gmt) := by
    unfold form1 f1; rw [if_pos hy]; simp
  have hp : ∀ a n : Nat, piece (form1 v) ((wkN (wd (v / 86400))).length + a) n = piece ([44, 32] ++ pad2 (cD (v / 86400)) ++ [45] ++ moN (cM (v / 86400)).toNat ++ [45] ++ pad2 (cY (v / 86400) % 100) ++ [32] ++ hms (v % 86400) ++ gmt) a n := fun a n => by
    rw [hf]; unfold piece; rw [List.drop_append, List.drop_of_length_le (by omega), Nat.add_sub_cancel_left, List.nil_append]
  have hlen : (form1 v).length = (wkN (wd (v / 86400))).length + 24 := by rw [hf, List.length_append, hz]; rfl
  have e1 : piece (form1 v) ((form1 v).length - 22 + 3) 3 = moN (cM (v / 86400)).toNat := by rw [show (form1 v).length - 22 + 3 = (wkN (wd (v / 86400))).length + 5 by omega, hp, hz]; rfl
  have e2 : piece (form1 v) ((form1 v).length - 22) 2 = pad2 (cD (v / 86400)) := by rw [show (form1 v).length - 22 = (wkN (wd (v / 86400))).length + 2 by omega, hp, hz]; rfl
  have e3 : piece (form1 v) ((form1 v).length - 22 + 7) 2 = pad2 (cY (v / 86400) % 100) := by rw [show (form1 v).length - 22 + 7 = (wkN (wd (v / 86400))).length + 9 by omega, hp, hz]; rfl
  have e4 : piece (form1 v) ((form1 v).length - 22 + 10) 2 = pad2 (v % 86400 / 3600) := by rw [show (form1 v).length - 22 + 10 = (wkN (wd (v / 86400))).length + 12 by omega, hp, hz]; rfl
  have e5 : piece (form1 v) ((form1 v).length - 22 + 10 + 3) 2 = pad2 (v % 86400 / 60 % 60) := by rw [show (form1 v).length - 22 + 10 + 3 = (wkN (wd (v / 86400))).length + 15 by omega, hp, hz]; rfl
  have e6 : piece (form1 v) ((form1 v).length - 22 + 10 + 6) 2 = pad2 (v % 86400 % 60) := by rw [show (form1 v).length - 22 + 10 + 6 = (wkN (wd (v / 86400))).length + 18 by omega, hp, hz]; rfl
  have hyy : yy (cY (v / 86400) % 100) = cY (v / 86400) := by unfold yy; split <;> (try split) <;> omega
  unfold rparse rpart digs
  rw [if_neg (by omega), if_neg (by omega), if_pos ⟨by omega, by omega⟩, e1, e2, e3, e4, e5, e6, rdig_pad2 (by omega) (by omega), rdig_pad2 (by omega) (by omega), rdig_pad2 (by omega) (by omega), rdig_pad2 (by omega) (by omega), rdig_pad2 (by omega) (by omega), monA_moN a3 a4, hyy]
  exact hd
theorem rparse_of {s : List UInt8} {v : Int} (h : IsForm s v) : rparse s = (v, 0) := by
  obtain ⟨h0, rfl | ⟨hy, rfl⟩ | rfl⟩ := h
  · exact rparse_form0 h0
  · exact rparse_form1 h0 hy
  · exact rparse_form2 h0
/-- Both readings answer the same. -/
theorem parse_eq (s : List UInt8) : rparse s = dparse s := by
  rcases rparse_two s with h | h
  · have e : rparse s = ((rparse s).1, 0) := by rw [← h]
    rw [e, dparse_of (rparse_inv e)]
  · rcases dparse_two s with g | g
    · have e : dparse s = ((dparse s).1, 0) := by rw [← g]
      have := rparse_of (dparse_inv e)
      rw [this, ← e]
    · rw [h, g]
end Dt
end Go.Proofs.YtcaekfebnhedpaaGreatDoor
set_option linter.unusedVariables false
set_option linter.unusedSimpArgs false
namespace Go.Proofs.YtcaekfebnhedpaaGreatDoor
theorem valuesL_nameG {l : List Fld} {a b : List UInt8} (h : fold a = fold b) : valuesL l a = valuesL l b := by unfold valuesL isB; rw [h]
namespace Frs
abbrev dateN : List UInt8 := [100, 97, 116, 101]
abbrev DateN : List UInt8 := [68, 97, 116, 101]
abbrev ageN : List UInt8 := [97, 103, 101]
abbrev AgeN : List UInt8 := [65, 103, 101]
abbrev lmN : List UInt8 := [108, 97, 115, 116, 45, 109, 111, 100, 105, 102, 105, 101, 100]
abbrev LmN : List UInt8 := [76, 97, 115, 116, 45, 77, 111, 100, 105, 102, 105, 101, 100]
/-- All values of a name, as one text. -/
def getL (l : List Fld) (n : List UInt8) : List UInt8 := Lib.join (valuesL l n) [44, 32]
theorem get_name {l : List Fld} {a b : List UInt8} (h : fold a = fold b) : getL l a = getL l b := by unfold getL; rw [valuesL_nameG h]
theorem get_len {l : List Fld} (hls : FlenS l) (hn : l.length ≤ 1048576) (n : List UInt8) : (getL l n).length ≤ 1099513724928 := by
  unfold getL
  refine Nat.le_trans (join_len [44, 32] 1048576 _ (fun v hv => values_each hls hv)) ?_
  have := values_le l n
  exact Nat.le_trans (Nat.mul_le_mul (Nat.le_trans this hn) (Nat.le_refl _)) (by simp)
/-- The second of a date's field: 0 and false where there is none that is read. -/
def momV (l : List Fld) (n : List UInt8) : Int := (Dt.dparse (getL l n)).1
def momO (l : List Fld) (n : List UInt8) : Bool := (Dt.dparse (getL l n)).2 == 0
theorem momV_name {l : List Fld} {a b : List UInt8} (h : fold a = fold b) : momV l a = momV l b := by unfold momV; rw [get_name h]
theorem momO_name {l : List Fld} {a b : List UInt8} (h : fold a = fold b) : momO l a = momO l b := by unfold momO; rw [get_name h]
/-- The document's: -1 where there is none. -/
def secdL (l : List Fld) (n : List UInt8) : Int := if momO l n = true then momV l n else -1
theorem parse_bd (s : List UInt8) : 0 ≤ (Dt.dparse s).1 ∧ (Dt.dparse s).1 ≤ 253402300799 ∧ ((Dt.dparse s).2 ≠ 0 → (Dt.dparse s).1 = 0) := by
  rcases Dt.dparse_two s with h | h
  · have e : Dt.dparse s = ((Dt.dparse s).1, 0) := by rw [← h]
    have hi := (Dt.dparse_inv e).1
    unfold Dt.inR at hi
    exact ⟨by omega, by omega, fun h2 => absurd h h2⟩
  · rw [h]; simp
theorem mom_bd (l : List Fld) (n : List UInt8) : 0 ≤ momV l n ∧ momV l n ≤ 253402300799 := by
  have := parse_bd (getL l n); exact ⟨this.1, this.2.1⟩
theorem mom_no {l : List Fld} {n : List UInt8} (h : momO l n = false) : momV l n = 0 := by
  refine (parse_bd (getL l n)).2.2 ?_
  unfold momO at h
  simpa using h
theorem secd_bd (l : List Fld) (n : List UInt8) : -1 ≤ secdL l n ∧ secdL l n ≤ 253402300799 := by
  have := mom_bd l n
  unfold secdL; split <;> omega
end Frs
end Go.Proofs.YtcaekfebnhedpaaGreatDoor
