/- append onto a row of the call's own beside another slice that lies elsewhere: that one reads as it did. Conditions: the new row's bytes. -/
import Derived.Test.YtfhkgbimnfjfhaaDoorTy
set_option linter.unusedVariables false
set_option linter.unusedSimpArgs false
namespace Go.Proofs.YtfhkgbimnfjfhaaDoor
open Go.RowKit

/-- The row v and the slice (A, n) lie in unlike blocks. -/
def Sep (v : Value) (A : Option Addr) (n : Nat) : Prop := 0 < n → ∀ g o, A = some ⟨g, o, none⟩ → v.ownBlock ≠ some g
theorem sep_of {w : World} {B : Nat} {v : Value} {l : List (List UInt8)} {A : Option Addr} {n c : Nat} {w2 : World} {E : List (List UInt8)} (hv : OwnS w B v l) (hu : OwnS w2 w.heap.size (.slice A n c) E) : Sep v A n := by
  intro _ g o hA he
  have h1 := (World.ownsRow.lt hv g he).2
  have h2 := (World.ownsRow.lt hu g (by rw [hA]; rfl)).1
  omega
theorem sep_rd {w w' : World} {sz n : Nat} {A : Option Addr} {xs : List Value} {v v' : Value} (h : Rd w sz A n xs) (hs : Sep v A n) (hg : w.grownBy w' v.ownBlock) (hv : v'.ownBlock = v.ownBlock ∨ v'.ownBlock = some w.heap.size) : Rd w' sz A n xs ∧ Sep v' A n := by
  refine ⟨⟨h.1, fun hn => ?_⟩, fun hn g o hA he => ?_⟩
  · obtain ⟨g, o, rfl, hlt, hc⟩ := h.2 hn
    have hne := hs hn g o rfl
    have hb := hg.block g hlt (fun e => hne e.symm)
    exact ⟨g, o, rfl, Nat.lt_of_lt_of_le hlt hg.size, fun j u hu => (World.cell?_of_block (w := w) (a := ⟨g, o + j, none⟩) hb).trans (hc j u hu)⟩
  · rcases hv with h1 | h1
    · exact hs hn g o hA (by rw [← h1]; exact he)
    · obtain ⟨g2, o2, e2, hlt, _⟩ := h.2 hn
      rw [hA] at e2
      injection e2 with e2; injection e2 with e3
      rw [he] at h1
      injection h1 with h1
      omega
section
variable {w : World} {ops : Array Oper} {rest : List Oper} {o : Oper} {a : Act} {Q : Exit → Act → World → Prop}
theorem wp_appS2 (hgd : o.guard = none) (s x : Operand) (ho : o.op = .call { callee := .builtin .append, args := #[s, x], argTypes := #[39, 39] })
    (base : Nat) (v : Value) (l : List (List UInt8)) (hs : a.eval s = v) (hown : OwnS w base v l) (A : Option Addr) (m c : Nat) (news : List (List UInt8)) (hx : a.eval x = .slice A m c) (hr : RdS w A m news)
    (hbytes : (l.length + m) * 16 ≤ 140737488355328) (hbase : base ≤ w.heap.size) {A2 : Option Addr} {n2 : Nat} {l2 : List (List UInt8)} (hE : RdS w A2 n2 l2) (hsep : Sep v A2 n2)
    (h : ∀ A' n' c' w', OwnS w' base (.slice A' n' c') (l ++ news) → Below base w w' → RdS w' A2 n2 l2 → Sep (.slice A' n' c') A2 n2 → Hid (n' = l.length + m) → wpList Tryd.prog ops Q rest (a.put o.dst (.slice A' n' c')) w') : wpList Tryd.prog ops Q (o :: rest) a w := by
  obtain ⟨i0, hi, hz0, hz1, hz2⟩ := info_parts str_info
  have h63 : l.length + m ≤ maxLen := by unfold maxLen; omega
  refine wpList_append_any w hgd s x _ ho base _ i0 _ 1 16 Tryd.underlying39 hi hz0 hz1 hz2 rfl (by omega) v l.length (strs l) hs hown A m c (strs news) hx hr.2 (strs_one _) h63 hbytes hbase fun v' w' h2 h3 h4 => ?_
  obtain ⟨A', c', rfl⟩ := own_slice h2
  obtain ⟨r1, r2⟩ := sep_rd hE.2 hsep h3 h4
  refine h A' _ c' w' ?_ ((Below.refl base w).grown h3 hbase fun k hk => (World.ownsRow.lt hown k hk).1) ⟨hE.1, r1⟩ r2 (Lib.hid rfl)
  unfold OwnS
  rw [List.length_append, hr.1, show strs (l ++ news) = strs l ++ strs news from by simp [strs]]
  exact h2
theorem wp_appS3 (hgd : o.guard = none) (s x : Operand) (ho : o.op = .call { callee := .builtin .append, args := #[s, x], argTypes := #[39, 39] })
    (base : Nat) (v : Value) (l : List (List UInt8)) (hs : a.eval s = v) (hown : OwnS w base v l) (A : Option Addr) (m c : Nat) (news : List (List UInt8)) (hx : a.eval x = .slice A m c) (hr : RdS w A m news)
    (hbytes : (l.length + m) * 16 ≤ 140737488355328) (hbase : base ≤ w.heap.size) {A2 : Option Addr} {n2 : Nat} {l2 : List (List UInt8)} (hE : RdS w A2 n2 l2) (hsep : Sep v A2 n2) {A3 : Option Addr} {n3 : Nat} {l3 : List (List UInt8)} (hE3 : RdS w A3 n3 l3) (hsep3 : Sep v A3 n3)
    (h : ∀ A' n' c' w', OwnS w' base (.slice A' n' c') (l ++ news) → Below base w w' → RdS w' A2 n2 l2 → Sep (.slice A' n' c') A2 n2 → RdS w' A3 n3 l3 → Sep (.slice A' n' c') A3 n3 → Hid (n' = l.length + m) → wpList Tryd.prog ops Q rest (a.put o.dst (.slice A' n' c')) w') : wpList Tryd.prog ops Q (o :: rest) a w := by
  obtain ⟨i0, hi, hz0, hz1, hz2⟩ := info_parts str_info
  have h63 : l.length + m ≤ maxLen := by unfold maxLen; omega
  refine wpList_append_any w hgd s x _ ho base _ i0 _ 1 16 Tryd.underlying39 hi hz0 hz1 hz2 rfl (by omega) v l.length (strs l) hs hown A m c (strs news) hx hr.2 (strs_one _) h63 hbytes hbase fun v' w' h2 h3 h4 => ?_
  obtain ⟨A', c', rfl⟩ := own_slice h2
  obtain ⟨r1, r2⟩ := sep_rd hE.2 hsep h3 h4
  obtain ⟨r3, r4⟩ := sep_rd hE3.2 hsep3 h3 h4
  refine h A' _ c' w' ?_ ((Below.refl base w).grown h3 hbase fun k hk => (World.ownsRow.lt hown k hk).1) ⟨hE.1, r1⟩ r2 ⟨hE3.1, r3⟩ r4 (Lib.hid rfl)
  unfold OwnS
  rw [List.length_append, hr.1, show strs (l ++ news) = strs l ++ strs news from by simp [strs]]
  exact h2
end
end Go.Proofs.YtfhkgbimnfjfhaaDoor
