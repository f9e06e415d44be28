/- Joined texts: The document's Marked: a list of the call's own is written over and grown; nothing but its own row is touched. The conditions stand in each line. -/
import Derived.Test.YtbigcdmkfcmegaaGreatDoorM5
import Derived.Test.YtbigcdmkfcmegaaGreatDoorM6
import Derived.Deep.Cut
import Derived.Deep.DeepCutAuto
set_option linter.unusedVariables false
set_option linter.unusedSimpArgs false
namespace Go.Proofs.YtbigcdmkfcmegaaGreatDoor
open Go.RowKit

set_option maxRecDepth 100000
theorem grown_trans {w w1 w2 : World} {row0 r : Option Nat} (h1 : w.grownBy w1 row0) (h2 : w1.grownBy w2 r) (hr : r = none ∨ r = row0 ∨ ∃ k, r = some k ∧ w.heap.size ≤ k) : w.grownBy w2 row0 :=
  ⟨h2.os.trans h1.os, h2.tape.trans h1.tape, h2.output.trans h1.output, Nat.le_trans h1.size h2.size, fun k hk hne => by
    have hk1 : k < w1.heap.size := Nat.lt_of_lt_of_le hk h1.size
    rw [h2.block k hk1 (by
      rcases hr with rfl | rfl | ⟨k', rfl, hk'⟩
      · simp
      · exact hne
      · simp; omega)]
    exact h1.block k hk hne⟩
section
variable {w : World} {ops : Array Oper} {rest : List Oper} {o : Oper} {a : Act} {Q : Exit → Act → World → Prop}
theorem wp_appG (hgd : o.guard = none) (s x : Operand) (ho : o.op = .call { callee := .builtin .append, args := #[s, x], argTypes := #[22, 22] })
    (base : Nat) (v : Value) (n : Nat) (xs : List Value) (hs : a.eval s = v) (hown : w.ownsRow base 37 2 v n xs) (A : Option Addr) (m c : Nat) (news : List Fld) (hx : a.eval x = .slice A m c) (hr : RdF w A m news)
    (hbytes : (n + m) * 32 ≤ 140737488355328) (hbase : base ≤ w.heap.size)
    (h : ∀ A' n' c' w' xs', w'.ownsRow base 37 2 (.slice A' n' c') n' xs' → w.grownBy w' v.ownBlock → ((Value.slice A' n' c').ownBlock = v.ownBlock ∨ (Value.slice A' n' c').ownBlock = some w.heap.size) → Hid (n' = n + m) → wpList Tryz.prog ops Q rest (a.put o.dst (.slice A' n' c')) w') : wpList Tryz.prog ops Q (o :: rest) a w := by
  obtain ⟨i0, hi, hz0, hz1, hz2⟩ := info_parts fld_info
  have h63 : n + m ≤ maxLen := by unfold maxLen; omega
  refine wpList_append_any w hgd s x _ ho base _ i0 _ 2 32 Tryz.underlying22 hi hz0 hz1 hz2 rfl (by omega) v n xs hs hown A m c (fcells news) hx hr.2 (fcells_one _) h63 hbytes hbase fun v' w' h2 h3 h4 => ?_
  obtain ⟨A', c', rfl⟩ := own_slice h2
  exact h A' _ c' w' _ h2 h3 h4 (Lib.hid rfl)
end
set_option maxHeartbeats 2000000 in
theorem marked_any (A : Option Addr) (n c : Nat) (l : List Fld) (B : Nat) (w : World) (ho : OwnF w B (.slice A n c) l) (hn : n ≤ 4194304) (hB : B ≤ w.heap.size) :
    Calls Tryz.prog 16 #[.slice A n c] w fun x w' => x = .returned (.bool true) ∧ w.grownBy w' (Value.slice A n c).ownBlock := by
  have hln : l.length = n := ho.rd.1
  unfold OwnF at ho
  rw [hln] at ho
  clear hln
  generalize fcells l = xs0 at *
  have hgr := World.grownBy.refl w (Value.slice A n c).ownBlock
  go_enter Tryz.func16, Tryz.ntmps16
  go_wp2_with fail
  go_loopw [3] (fun t wr => ∃ k : Nat, k ≤ n ∧ t = .int .i64 k ∧ (∃ xs, wr.ownsRow B 37 2 (.slice A n c) n xs) ∧ w.grownBy wr (Value.slice A n c).ownBlock) (fun t _ => n - (intOf t).toNat)
  case atStart => exact ⟨0, by omega, rfl, ⟨_, ho⟩, hgr⟩
  case round =>
    obtain ⟨k, hk, rfl, ⟨xs, hxs⟩, hg⟩ := hrel
    by_cases hlt : k < n
    · obtain ⟨g, cap, hv, hbg, hgl⟩ := hxs.form (by omega)
      injection hv with h1 h2 h3
      subst h1 h3
      clear h2
      have hx1 : k * 2 < xs.length := by rw [hxs.1]; omega
      have hcell : wr.cell? ⟨g, k * 2, none⟩ = some xs[k * 2] := by rw [hxs.cellAt (k * 2) (by omega)]; exact List.getElem?_eq_getElem hx1
      have hfr := hxs.frozenAt (k * 2)
      generalize xs[k * 2] = old at *
      have hst := (hxs.stored (k * 2) (.string (bs [109, 97, 114, 107]))).1
      have hg2 : w.grownBy (wr.setCell ⟨g, k * 2, none⟩ (.string (bs [109, 97, 114, 107]))) (Value.slice (some ⟨g, 0, none⟩) n c).ownBlock :=
        grown_trans hg (r := some g) ⟨rfl, rfl, rfl, by simp [World.setCell], fun i _ hne => Below.heap_setCell _ _ _ _ (fun he => hne (by rw [he]))⟩ (.inr (.inl rfl))
      clear hg hx1
      go_wp2_with fail
      go_roundw
      case rel => exact ⟨k + 1, by omega, by go_num, ⟨_, hst⟩, hg2⟩
      case measure => simp [intOf]; omega
    · obtain rfl : n = k := by omega
      clear ho hgr
      have hn0 : n + 0 = n := rfl
      obtain ⟨wo, rfl⟩ : ∃ wo, wo = wr := ⟨_, rfl⟩
      have HP := Lib.hid hxs
      clear hxs
      go_wp2
      go_loopw [0, 4] (fun v t wr => ∃ (j : Nat) (A' : Option Addr) (n' c' : Nat), j ≤ 9 ∧ t = .int .i64 j ∧ v = .slice A' n' c' ∧ Hid (n' = n + j) ∧ (∃ xs, wr.ownsRow B 37 2 (.slice A' n' c') n' xs) ∧ w.grownBy wr (Value.slice A n c).ownBlock ∧ ((Value.slice A' n' c').ownBlock = (Value.slice A n c).ownBlock ∨ ∃ k, (Value.slice A' n' c').ownBlock = some k ∧ w.heap.size ≤ k)) (fun _ t _ => 9 - (intOf t).toNat)
      case atStart => exact ⟨0, A, n, c, by omega, rfl, rfl, Lib.hid rfl, ⟨_, HP.out⟩, hg, .inl rfl⟩
      case round =>
        obtain ⟨j, A', n', c', hj, rfl, rfl, HN, ⟨xs, hxs⟩, hg, hv⟩ := hrel
        by_cases hlj : j < 9
        · have hby : (n' + 1) * 32 ≤ 140737488355328 := by have := HN.out; omega
          have hBw : B ≤ (wr.alloc (.cells #[.string (bs [109, 111, 114, 101]), .string (bs [])] 37)).heap.size := by have := hg.size; simp; omega
          have hgw := hg.size
          go_wp2_with
            (at_builtin
             refine wp_appG rfl (.tmp 19) (.tmp 21) rfl B (.slice A' n' c') n' xs rfl (hxs.kept (World.grownBy_alloc _ _ none) (by cases A' <;> simp [Value.ownBlock])) (some ⟨wr.heap.size, 0, none⟩) 1 1 [([109, 111, 114, 101], [])] rfl ?hr hby ?hbase ?_
             case hr => exact one_rdF _ _ _ _
             case hbase => exact hBw
             intro A2 n2 c2 w2 xs2 hown2 hg2 hv2 hn2)
          have hg3 : w.grownBy w2 (Value.slice A n c).ownBlock := by
            refine grown_trans (grown_trans hg (World.grownBy_alloc _ _ none) (.inl rfl)) hg2 ?_
            rcases hv with hv | ⟨k, hv, hk⟩
            · exact .inr (.inl hv)
            · exact .inr (.inr ⟨k, hv, hk⟩)
          have hv3 : (Value.slice A2 n2 c2).ownBlock = (Value.slice A n c).ownBlock ∨ ∃ k, (Value.slice A2 n2 c2).ownBlock = some k ∧ w.heap.size ≤ k := by
            rcases hv2 with h2 | h2
            · rcases hv with hv | ⟨k, hv, hk⟩
              · exact .inl (h2.trans hv)
              · exact .inr ⟨k, h2.trans hv, hk⟩
            · exact .inr ⟨_, h2, by simp; omega⟩
          clear hv2 hg2 hg hv
          go_roundw
          case rel => exact ⟨j + 1, A2, n2, c2, by omega, by go_num, rfl, Lib.hid (by rw [hn2.out, HN.out]; omega), ⟨_, hown2⟩, hg3, hv3⟩
          case measure => simp [intOf]; omega
        · obtain rfl : j = 9 := by omega
          have h9 : 9 ≤ n' := by have := HN.out; omega
          go_wp2
          go_ret
          exact ⟨ret_bool (by simp; omega), hg⟩
end Go.Proofs.YtbigcdmkfcmegaaGreatDoor
