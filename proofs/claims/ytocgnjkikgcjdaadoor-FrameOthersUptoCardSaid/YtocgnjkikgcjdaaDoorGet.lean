/- fields.Get (whether there is a value) and slices.Equal at texts. Conditions: lists and texts within 2^20. -/
import Derived.Test.YtocgnjkikgcjdaaDoorNumR
import Derived.Test.YtocgnjkikgcjdaaDoorLast
set_option linter.unusedVariables false
set_option linter.unusedSimpArgs false
namespace Go.Proofs.YtocgnjkikgcjdaaDoor
open Go.RowKit

theorem equal_any (A B : Option Addr) (n m c d : Nat) (l r : List (List UInt8)) (w : World) (hl : RdS w A n l) (hr : RdS w B m r) (hn : n ≤ 140737488355328) (hm : m ≤ 140737488355328) :
    Calls Tryd.prog 37 #[.slice A n c, .slice B m d] w fun e w' => e = .returned (.bool (l == r)) ∧ Below w.heap.size w w' := by
  by_cases hnm : n = m
  · subst hnm
    by_cases h0 : n = 0
    · subst h0
      have e1 : l = [] := List.eq_nil_of_length_eq_zero hl.1
      have e2 : r = [] := List.eq_nil_of_length_eq_zero hr.1
      subst e1; subst e2
      exact (Tryd.slices_Equal_string_empty A B c 0 d w (by omega)).mono fun e w' h => ⟨h.1, by rw [h.2]; exact Below.refl _ _⟩
    · obtain ⟨g, o, rfl, hg, hc⟩ := hl.2.2 (by omega)
      obtain ⟨g2, o2, rfl, hg2, hc2⟩ := hr.2.2 (by omega)
      refine (Tryd.slices_Equal_string g o n c g2 o2 n d (l.map bs) (r.map bs) w (by rw [List.length_map, hl.1]; exact Nat.le_refl _) (by rw [List.length_map, hr.1]; exact Nat.le_refl _) (by omega) (by omega) (fun j hj => ?_) (fun j hj => ?_)).mono fun e w' h => ⟨?_, ?_⟩
      · rw [List.length_map] at hj
        rw [hc j _ (strs_get l j hj)]
        simp [strV, List.getD_eq_getElem?_getD, hj]
      · rw [List.length_map] at hj
        rw [hc2 j _ (strs_get r j hj)]
        simp [strV, List.getD_eq_getElem?_getD, hj]
      · rw [h.1, List.take_of_length_le (by rw [List.length_map, hl.1]; exact Nat.le_refl _), List.take_of_length_le (by rw [List.length_map, hr.1]; exact Nat.le_refl _)]
        refine ret_bool ?_
        rw [Bool.eq_iff_iff, decide_eq_true_iff, beq_iff_eq]
        constructor
        · intro e
          have h2 := congrArg (List.map fun s : ByteArray => s.data.toList) e
          rw [List.map_map, List.map_map] at h2
          have hid : (fun s : ByteArray => s.data.toList) ∘ bs = id := rfl
          rw [hid, List.map_id, List.map_id] at h2
          exact h2
        · rintro rfl; rfl
      · obtain ⟨q, rfl⟩ := h.2
        exact below_drewN (Below.refl _ _) q
  · refine (Tryd.slices_Equal_string_lens A B n c m d w hnm).mono fun e w' h => ⟨?_, by rw [h.2]; exact Below.refl _ _⟩
    rw [h.1]
    refine ret_bool ?_
    symm
    rw [beq_eq_false_iff_ne]
    rintro rfl
    exact hnm (by rw [← hl.1, hr.1])

theorem joinTail_len (sep : List UInt8) (M : Nat) : ∀ r : List (List UInt8), (∀ x ∈ r, x.length ≤ M) → (Lib.joinTail sep r).length ≤ r.length * (sep.length + M)
  | [], _ => by simp [Lib.joinTail]
  | x :: r, h => by
    have ih := joinTail_len sep M r (fun y hy => h y (by simp [hy]))
    have hx := h x (by simp)
    have e : Lib.joinTail sep (x :: r) = sep ++ x ++ Lib.joinTail sep r := by simp [Lib.joinTail]
    rw [e, List.length_append, List.length_append, List.length_cons, Nat.succ_mul]
    omega
theorem join_len (sep : List UInt8) (M : Nat) (l : List (List UInt8)) (h : ∀ x ∈ l, x.length ≤ M) : (Lib.join l sep).length ≤ l.length * (sep.length + M) := by
  cases l with
  | nil => simp [Lib.join_nil]
  | cons x r =>
    rw [Lib.join_cons, List.length_append, List.length_cons, Nat.succ_mul]
    have := joinTail_len sep M r (fun y hy => h y (by simp [hy]))
    have := h x (by simp)
    omega
/-- strings.Join at an owned row of texts. -/
theorem join_any (A : Option Addr) (n c B : Nat) (l : List (List UInt8)) (sep : List UInt8) (w : World) (ho : OwnS w B (.slice A n c) l) (hn : n ≤ 1048576) (hv : ∀ v ∈ l, v.length ≤ 1048576) (hsep : sep.length ≤ 1048576) :
    Calls Tryd.prog 31 #[.slice A n c, .string (bs sep)] w fun e w' => e = .returned (.string (bs (Lib.join l sep))) ∧ Below w.heap.size w w' := by
  have hr := ho.rd
  by_cases h0 : n = 0
  · subst h0
    have e1 : l = [] := List.eq_nil_of_length_eq_zero hr.1
    subst e1
    exact (Tryd.strings_Join_none A c (bs sep) w).mono fun e w' h => ⟨h.1, by rw [h.2]; exact Below.refl _ _⟩
  · rcases ho.2 with ⟨hv0, hn0⟩ | ⟨g, cap, cur, e1, _, _, hnc, _⟩
    · exact absurd (by rw [← hr.1]; exact hn0) h0
    · injection e1 with e2 e3 e4
      subst e2; subst e4
      obtain ⟨g2, o2, e5, hg, hc⟩ := hr.2.2 (by omega)
      injection e5 with e6
      have hln : (l.map bs).length = n := by rw [List.length_map, hr.1]
      have hmap : (l.map bs).map (fun x : ByteArray => x.data.toList) = l := by
        rw [List.map_map]
        have hid : (fun s : ByteArray => s.data.toList) ∘ bs = id := rfl
        rw [hid, List.map_id]
      have h := Tryd.strings_Join g 0 c (l.map bs) (bs sep) w (fun j x hx => by
          rw [List.getElem?_map] at hx
          have hj : j < l.length := by
            rcases Nat.lt_or_ge j l.length with h | h
            · exact h
            · rw [List.getElem?_eq_none h] at hx; cases hx
          rw [List.getElem?_eq_getElem hj] at hx
          injection hx with hx
          subst hx
          have := hc j _ (strs_get l j hj)
          injection e6 with e7 e8
          subst e7; subst e8
          exact this) (by injection e6 with e7; rw [e7]; exact hg) (by rw [hln]; omega) (by rw [hln]; rw [hr.1] at hnc; exact hnc) (by
          rw [hmap, bs_data]
          refine Nat.le_trans (join_len sep 1048576 l hv) ?_
          rw [hr.1]
          refine Nat.le_trans (Nat.mul_le_mul (show n ≤ 1048576 from hn) (show sep.length + 1048576 ≤ 2097152 by omega)) (by omega))
      rw [hln, hmap, bs_data] at h
      exact h

set_option maxHeartbeats 400000 in
theorem get_any (A : Option Addr) (n c : Nat) (l : List Fld) (name : List UInt8) (w : World) (hl : RdF w A n l) (hn : n ≤ 1048576) (hls : FlenS l) (hnm : name.length ≤ 1048576) :
    Calls Tryd.prog 19 #[.slice A n c, .string (bs name)] w fun e w' => e = .returned (.tuple #[.string (bs (Lib.join (valuesL l name) [44, 32])), .bool (!(valuesL l name).isEmpty)]) ∧ Below w.heap.size w w' := by
  have HV : Hid (∀ v ∈ valuesL l name, v.length ≤ 1048576) := Lib.hid fun v hv => values_each hls hv
  have HVl : Hid ((valuesL l name).length ≤ l.length) := Lib.hid (values_le l name)
  have HJ : Hid (∀ V, V = valuesL l name → Value.tuple #[.string (bs (Lib.join V [44, 32])), .bool (!V.isEmpty)] = .tuple #[.string (bs (Lib.join (valuesL l name) [44, 32])), .bool (!(valuesL l name).isEmpty)]) := Lib.hid fun V h => by rw [h]
  have hln := hl.1
  generalize Value.tuple #[.string (bs (Lib.join (valuesL l name) [44, 32])), .bool (!(valuesL l name).isEmpty)] = R at *
  go_enter Tryd.func19, Tryd.ntmps19
  go_wp2_with fail
  refine (values_own A n c l name w hl (by omega) hls.ok (by omega)).mono ?_
  rintro e w1 ⟨A1, n1, c1, rfl, hS, hb1⟩
  generalize valuesL l name = V at *
  have hrd := hS.rd
  have hnl : n1 ≤ 1048576 := by have := HVl.out; rw [hrd.1] at this; omega
  go_wp2_with fail
  refine (join_any A1 n1 c1 _ V [44, 32] w1 hS hnl HV.out (by simp)).mono ?_
  rintro e w2 ⟨rfl, hb2⟩
  have hb3 := bnext hb1 hb2 hb1.size
  have HJ2 := Lib.hid (HJ.out V rfl)
  have hlen := hrd.1
  have HE : Hid ((!V.isEmpty) = decide (0 < n1)) := Lib.hid (by
    rw [← hlen]
    cases V with
    | nil => rfl
    | cons x r => simp)
  go_wp2
  go_ret2
  exact ⟨by rw [← HJ2.out, HE.out]; rfl, hb3⟩
end Go.Proofs.YtocgnjkikgcjdaaDoor
