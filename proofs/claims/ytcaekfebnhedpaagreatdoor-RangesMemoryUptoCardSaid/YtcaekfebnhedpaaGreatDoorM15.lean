/- Joined texts: append onto a row of the call's own beside another slice that lies elsewhere: that one reads as it did; fields.Tokens: the elements of a name's values, in small letters; fields.Get (all values of a name, whether there is one). The conditions stand in each line. -/
import Derived.Test.YtcaekfebnhedpaaGreatDoorM2
import Derived.Test.YtcaekfebnhedpaaGreatDoorM4
import Derived.Test.YtcaekfebnhedpaaGreatDoorM14
import Derived.Lib.Join
set_option linter.unusedVariables false
set_option linter.unusedSimpArgs false
namespace Go.Proofs.YtcaekfebnhedpaaGreatDoor
open Go.RowKit

/-- The row v and the slice (A, n) lie in unlike blocks. -/
def Sep (v : Value) (A : Option Addr) (n : Nat) : Prop := 0 < n → ∀ g o, A = some ⟨g, o, none⟩ → v.ownBlock ≠ some g
theorem sep_of {w : World} {B : Nat} {v : Value} {l : List (List UInt8)} {A : Option Addr} {n c : Nat} {w2 : World} {E : List (List UInt8)} (hv : OwnS w B v l) (hu : OwnS w2 w.heap.size (.slice A n c) E) : Sep v A n := by
  intro _ g o hA he
  have h1 := (World.ownsRow.lt hv g he).2
  have h2 := (World.ownsRow.lt hu g (by rw [hA]; rfl)).1
  omega
theorem sep_rd {w w' : World} {sz n : Nat} {A : Option Addr} {xs : List Value} {v v' : Value} (h : Rd w sz A n xs) (hs : Sep v A n) (hg : w.grownBy w' v.ownBlock) (hv : v'.ownBlock = v.ownBlock ∨ v'.ownBlock = some w.heap.size) : Rd w' sz A n xs ∧ Sep v' A n := by
  refine ⟨⟨h.1, fun hn => ?_⟩, fun hn g o hA he => ?_⟩
  · obtain ⟨g, o, rfl, hlt, hc⟩ := h.2 hn
    have hne := hs hn g o rfl
    have hb := hg.block g hlt (fun e => hne e.symm)
    exact ⟨g, o, rfl, Nat.lt_of_lt_of_le hlt hg.size, fun j u hu => (World.cell?_of_block (w := w) (a := ⟨g, o + j, none⟩) hb).trans (hc j u hu)⟩
  · rcases hv with h1 | h1
    · exact hs hn g o hA (by rw [← h1]; exact he)
    · obtain ⟨g2, o2, e2, hlt, _⟩ := h.2 hn
      rw [hA] at e2
      injection e2 with e2; injection e2 with e3
      rw [he] at h1
      injection h1 with h1
      omega
section
variable {w : World} {ops : Array Oper} {rest : List Oper} {o : Oper} {a : Act} {Q : Exit → Act → World → Prop}
theorem wp_appS2 (hgd : o.guard = none) (s x : Operand) (ho : o.op = .call { callee := .builtin .append, args := #[s, x], argTypes := #[49, 49] })
    (base : Nat) (v : Value) (l : List (List UInt8)) (hs : a.eval s = v) (hown : OwnS w base v l) (A : Option Addr) (m c : Nat) (news : List (List UInt8)) (hx : a.eval x = .slice A m c) (hr : RdS w A m news)
    (hbytes : (l.length + m) * 16 ≤ 140737488355328) (hbase : base ≤ w.heap.size) {A2 : Option Addr} {n2 : Nat} {l2 : List (List UInt8)} (hE : RdS w A2 n2 l2) (hsep : Sep v A2 n2)
    (h : ∀ A' n' c' w', OwnS w' base (.slice A' n' c') (l ++ news) → Below base w w' → RdS w' A2 n2 l2 → Sep (.slice A' n' c') A2 n2 → Hid (n' = l.length + m) → wpList Tryz.prog ops Q rest (a.put o.dst (.slice A' n' c')) w') : wpList Tryz.prog ops Q (o :: rest) a w := by
  obtain ⟨i0, hi, hz0, hz1, hz2⟩ := info_parts str_info
  have h63 : l.length + m ≤ maxLen := by unfold maxLen; omega
  refine wpList_append_any w hgd s x _ ho base _ i0 _ 1 16 Tryz.underlying49 hi hz0 hz1 hz2 rfl (by omega) v l.length (strs l) hs hown A m c (strs news) hx hr.2 (strs_one _) h63 hbytes hbase fun v' w' h2 h3 h4 => ?_
  obtain ⟨A', c', rfl⟩ := own_slice h2
  obtain ⟨r1, r2⟩ := sep_rd hE.2 hsep h3 h4
  refine h A' _ c' w' ?_ ((Below.refl base w).grown h3 hbase fun k hk => (World.ownsRow.lt hown k hk).1) ⟨hE.1, r1⟩ r2 (Lib.hid rfl)
  unfold OwnS
  rw [List.length_append, hr.1, show strs (l ++ news) = strs l ++ strs news from by simp [strs]]
  exact h2
theorem wp_appS3 (hgd : o.guard = none) (s x : Operand) (ho : o.op = .call { callee := .builtin .append, args := #[s, x], argTypes := #[49, 49] })
    (base : Nat) (v : Value) (l : List (List UInt8)) (hs : a.eval s = v) (hown : OwnS w base v l) (A : Option Addr) (m c : Nat) (news : List (List UInt8)) (hx : a.eval x = .slice A m c) (hr : RdS w A m news)
    (hbytes : (l.length + m) * 16 ≤ 140737488355328) (hbase : base ≤ w.heap.size) {A2 : Option Addr} {n2 : Nat} {l2 : List (List UInt8)} (hE : RdS w A2 n2 l2) (hsep : Sep v A2 n2) {A3 : Option Addr} {n3 : Nat} {l3 : List (List UInt8)} (hE3 : RdS w A3 n3 l3) (hsep3 : Sep v A3 n3)
    (h : ∀ A' n' c' w', OwnS w' base (.slice A' n' c') (l ++ news) → Below base w w' → RdS w' A2 n2 l2 → Sep (.slice A' n' c') A2 n2 → RdS w' A3 n3 l3 → Sep (.slice A' n' c') A3 n3 → Hid (n' = l.length + m) → wpList Tryz.prog ops Q rest (a.put o.dst (.slice A' n' c')) w') : wpList Tryz.prog ops Q (o :: rest) a w := by
  obtain ⟨i0, hi, hz0, hz1, hz2⟩ := info_parts str_info
  have h63 : l.length + m ≤ maxLen := by unfold maxLen; omega
  refine wpList_append_any w hgd s x _ ho base _ i0 _ 1 16 Tryz.underlying49 hi hz0 hz1 hz2 rfl (by omega) v l.length (strs l) hs hown A m c (strs news) hx hr.2 (strs_one _) h63 hbytes hbase fun v' w' h2 h3 h4 => ?_
  obtain ⟨A', c', rfl⟩ := own_slice h2
  obtain ⟨r1, r2⟩ := sep_rd hE.2 hsep h3 h4
  obtain ⟨r3, r4⟩ := sep_rd hE3.2 hsep3 h3 h4
  refine h A' _ c' w' ?_ ((Below.refl base w).grown h3 hbase fun k hk => (World.ownsRow.lt hown k hk).1) ⟨hE.1, r1⟩ r2 ⟨hE3.1, r3⟩ r4 (Lib.hid rfl)
  unfold OwnS
  rw [List.length_append, hr.1, show strs (l ++ news) = strs l ++ strs news from by simp [strs]]
  exact h2
end
end Go.Proofs.YtcaekfebnhedpaaGreatDoor
set_option linter.unusedVariables false
set_option linter.unusedSimpArgs false
namespace Go.Proofs.YtcaekfebnhedpaaGreatDoor
open Go.RowKit

/-- All texts are of at most 2^20 bytes. -/
def FlenS (l : List Fld) : Prop := ∀ f ∈ l, f.1.length ≤ 1048576 ∧ f.2.length ≤ 1048576
theorem FlenS.ok {l : List Fld} (h : FlenS l) : FlenOK l := fun f hf => ⟨by have := (h f hf).1; omega, by have := (h f hf).2; omega⟩
theorem values_each {l : List Fld} {name : List UInt8} (h : FlenS l) {v : List UInt8} (hv : v ∈ valuesL l name) : v.length ≤ 1048576 := by
  obtain ⟨f, hf, rfl⟩ := List.mem_map.1 hv
  exact (h f (List.mem_filter.1 hf).1).2
/-- The elements of values, in small letters. -/
def toksV (V : List (List UInt8)) : List (List UInt8) := (V.map fun v => (listL v).map fold).flatten
def tokensL (l : List Fld) (name : List UInt8) : List (List UInt8) := toksV (valuesL l name)
theorem toksV_snoc {V : List (List UInt8)} {k : Nat} {x : List UInt8} (h : V[k]? = some x) : toksV (V.take (k + 1)) = toksV (V.take k) ++ (listL x).map fold := by
  unfold toksV; rw [take_snoc? h]; simp
theorem toksV_nil (V : List (List UInt8)) : toksV (V.take 0) = [] := rfl
theorem toksV_le (V : List (List UInt8)) (k : Nat) (h : ∀ v ∈ V, v.length ≤ 1048576) : (toksV (V.take k)).length ≤ k * 1048577 := by
  induction k with
  | zero => rw [toksV_nil]; exact Nat.zero_le _
  | succ k ih =>
    rw [Nat.succ_mul]
    by_cases hk : k < V.length
    · have hx := List.getElem?_eq_getElem hk
      rw [toksV_snoc hx, List.length_append, List.length_map]
      have := list_len V[k]
      have := h _ (List.getElem_mem hk)
      omega
    · have e1 : V.take k = V := List.take_of_length_le (by omega)
      have e2 : V.take (k + 1) = V := List.take_of_length_le (by omega)
      rw [e1] at ih
      rw [e2]
      exact Nat.le_trans ih (Nat.le_add_right _ _)
theorem map_snoc {l : List (List UInt8)} {k : Nat} {x : List UInt8} (f : List UInt8 → List UInt8) (h : l[k]? = some x) : (l.take (k + 1)).map f = (l.take k).map f ++ [f x] := by
  rw [take_snoc? h]; simp

end Go.Proofs.YtcaekfebnhedpaaGreatDoor
set_option linter.unusedVariables false
set_option linter.unusedSimpArgs false
namespace Go.Proofs.YtcaekfebnhedpaaGreatDoor
open Go.RowKit

theorem joinTail_len (sep : List UInt8) (M : Nat) : ∀ r : List (List UInt8), (∀ x ∈ r, x.length ≤ M) → (Lib.joinTail sep r).length ≤ r.length * (sep.length + M)
  | [], _ => by simp [Lib.joinTail]
  | x :: r, h => by
    have ih := joinTail_len sep M r (fun y hy => h y (by simp [hy]))
    have hx := h x (by simp)
    have e : Lib.joinTail sep (x :: r) = sep ++ x ++ Lib.joinTail sep r := by simp [Lib.joinTail]
    rw [e, List.length_append, List.length_append, List.length_cons, Nat.succ_mul]
    omega
theorem join_len (sep : List UInt8) (M : Nat) (l : List (List UInt8)) (h : ∀ x ∈ l, x.length ≤ M) : (Lib.join l sep).length ≤ l.length * (sep.length + M) := by
  cases l with
  | nil => simp [Lib.join_nil]
  | cons x r =>
    rw [Lib.join_cons, List.length_append, List.length_cons, Nat.succ_mul]
    have := joinTail_len sep M r (fun y hy => h y (by simp [hy]))
    have := h x (by simp)
    omega
/-- strings.Join at an owned row of texts. -/
theorem join_anyM (M : Nat) (A : Option Addr) (n c B : Nat) (l : List (List UInt8)) (sep : List UInt8) (w : World) (ho : OwnS w B (.slice A n c) l) (hn : n ≤ 1048576) (hv : ∀ v ∈ l, v.length ≤ M) (hsep : n * (sep.length + M) ≤ 140737488355328) :
    Calls Tryz.prog 49 #[.slice A n c, .string (bs sep)] w fun e w' => e = .returned (.string (bs (Lib.join l sep))) ∧ Below w.heap.size w w' := by
  have hr := ho.rd
  by_cases h0 : n = 0
  · subst h0
    have e1 : l = [] := List.eq_nil_of_length_eq_zero hr.1
    subst e1
    exact (Tryz.strings_Join_none A c (bs sep) w).mono fun e w' h => ⟨h.1, by rw [h.2]; exact Below.refl _ _⟩
  · rcases ho.2 with ⟨hv0, hn0⟩ | ⟨g, cap, cur, e1, _, _, hnc, _⟩
    · exact absurd (by rw [← hr.1]; exact hn0) h0
    · injection e1 with e2 e3 e4
      subst e2; subst e4
      obtain ⟨g2, o2, e5, hg, hc⟩ := hr.2.2 (by omega)
      injection e5 with e6
      have hln : (l.map bs).length = n := by rw [List.length_map, hr.1]
      have hmap : (l.map bs).map (fun x : ByteArray => x.data.toList) = l := by
        rw [List.map_map]
        have hid : (fun s : ByteArray => s.data.toList) ∘ bs = id := rfl
        rw [hid, List.map_id]
      have h := Tryz.strings_Join g 0 c (l.map bs) (bs sep) w (fun j x hx => by
          rw [List.getElem?_map] at hx
          have hj : j < l.length := by
            rcases Nat.lt_or_ge j l.length with h | h
            · exact h
            · rw [List.getElem?_eq_none h] at hx; cases hx
          rw [List.getElem?_eq_getElem hj] at hx
          injection hx with hx
          subst hx
          have := hc j _ (strs_get l j hj)
          injection e6 with e7 e8
          subst e7; subst e8
          exact this) (by injection e6 with e7; rw [e7]; exact hg) (by rw [hln]; omega) (by rw [hln]; rw [hr.1] at hnc; exact hnc) (by
          rw [hmap, bs_data]
          refine Nat.le_trans (join_len sep M l hv) ?_
          rw [hr.1]
          exact hsep)
      rw [hln, hmap, bs_data] at h
      exact h

theorem join_any (A : Option Addr) (n c B : Nat) (l : List (List UInt8)) (sep : List UInt8) (w : World) (ho : OwnS w B (.slice A n c) l) (hn : n ≤ 1048576) (hv : ∀ v ∈ l, v.length ≤ 1048576) (hsep : sep.length ≤ 1048576) :
    Calls Tryz.prog 49 #[.slice A n c, .string (bs sep)] w fun e w' => e = .returned (.string (bs (Lib.join l sep))) ∧ Below w.heap.size w w' :=
  join_anyM 1048576 A n c B l sep w ho hn hv (Nat.le_trans (Nat.mul_le_mul hn (show sep.length + 1048576 ≤ 2097152 by omega)) (by omega))

set_option maxHeartbeats 400000 in
theorem get_anyM (M : Nat) (A : Option Addr) (n c : Nat) (l : List Fld) (name : List UInt8) (w : World) (hl : RdF w A n l) (hn : n ≤ 1048576) (hls : FlenOK l) (hvv : ∀ v ∈ valuesL l name, v.length ≤ M) (hM : n * (2 + M) ≤ 140737488355328) (hnm : name.length ≤ 1048576) :
    Calls Tryz.prog 24 #[.slice A n c, .string (bs name)] w fun e w' => e = .returned (.tuple #[.string (bs (Lib.join (valuesL l name) [44, 32])), .bool (!(valuesL l name).isEmpty)]) ∧ Below w.heap.size w w' := by
  have HV : Hid (∀ v ∈ valuesL l name, v.length ≤ M) := Lib.hid hvv
  have HVl : Hid ((valuesL l name).length ≤ l.length) := Lib.hid (values_le l name)
  have HJ : Hid (∀ V, V = valuesL l name → Value.tuple #[.string (bs (Lib.join V [44, 32])), .bool (!V.isEmpty)] = .tuple #[.string (bs (Lib.join (valuesL l name) [44, 32])), .bool (!(valuesL l name).isEmpty)]) := Lib.hid fun V h => by rw [h]
  have hln := hl.1
  generalize Value.tuple #[.string (bs (Lib.join (valuesL l name) [44, 32])), .bool (!(valuesL l name).isEmpty)] = R at *
  go_enter Tryz.func24, Tryz.ntmps24
  go_wp2_with fail
  refine (values_own A n c l name w hl (by omega) hls (by omega)).mono ?_
  rintro e w1 ⟨A1, n1, c1, rfl, hS, hb1⟩
  generalize valuesL l name = V at *
  have hrd := hS.rd
  have hnl : n1 ≤ 1048576 := by have := HVl.out; rw [hrd.1] at this; omega
  have hnv : n1 ≤ n := by have := HVl.out; rw [hrd.1] at this; omega
  go_wp2_with fail
  refine (join_anyM M A1 n1 c1 _ V [44, 32] w1 hS hnl HV.out (Nat.le_trans (Nat.mul_le_mul hnv (Nat.le_refl _)) hM)).mono ?_
  rintro e w2 ⟨rfl, hb2⟩
  have hb3 := bnext hb1 hb2 hb1.size
  have HJ2 := Lib.hid (HJ.out V rfl)
  have hlen := hrd.1
  have HE : Hid ((!V.isEmpty) = decide (0 < n1)) := Lib.hid (by
    rw [← hlen]
    cases V with
    | nil => rfl
    | cons x r => simp)
  go_wp2
  go_ret2
  exact ⟨by rw [← HJ2.out, HE.out]; rfl, hb3⟩
theorem get_any (A : Option Addr) (n c : Nat) (l : List Fld) (name : List UInt8) (w : World) (hl : RdF w A n l) (hn : n ≤ 1048576) (hls : FlenS l) (hnm : name.length ≤ 1048576) :
    Calls Tryz.prog 24 #[.slice A n c, .string (bs name)] w fun e w' => e = .returned (.tuple #[.string (bs (Lib.join (valuesL l name) [44, 32])), .bool (!(valuesL l name).isEmpty)]) ∧ Below w.heap.size w w' :=
  get_anyM 1048576 A n c l name w hl hn hls.ok (fun v hv => values_each hls hv) (Nat.le_trans (Nat.mul_le_mul hn (Nat.le_refl _)) (by omega)) hnm
end Go.Proofs.YtcaekfebnhedpaaGreatDoor
