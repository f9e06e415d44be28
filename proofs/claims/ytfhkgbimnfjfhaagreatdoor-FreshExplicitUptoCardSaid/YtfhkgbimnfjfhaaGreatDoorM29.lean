/- Joined texts: Rows of directives (a name, its argument, whether it has one): how they read, rows of the call's own, append; The reference's Unquote. The conditions stand in each line. -/
import Derived.Test.YtfhkgbimnfjfhaaGreatDoorM9
import Derived.Test.YtfhkgbimnfjfhaaGreatDoorM13
import Derived.Laws.OwnMore
set_option linter.unusedVariables false
set_option linter.unusedSimpArgs false
namespace Go.Proofs.YtfhkgbimnfjfhaaGreatDoor
open Go.RowKit

def dirC : List Ctl.Dir → List Value
  | [] => []
  | f :: r => .string (bs f.1) :: .string (bs f.2.1) :: .bool f.2.2 :: dirC r
theorem dirC_length (l : List Ctl.Dir) : (dirC l).length = l.length * 3 := by
  induction l with
  | nil => rfl
  | cons f r ih => simp [dirC, ih]; omega
theorem dirC_append (l m : List Ctl.Dir) : dirC (l ++ m) = dirC l ++ dirC m := by
  induction l with
  | nil => rfl
  | cons f r ih => simp [dirC, ih]
theorem dirC_one (l : List Ctl.Dir) : ∀ u ∈ dirC l, u.oneCell' = true := by
  induction l with
  | nil => simp [dirC]
  | cons f r ih =>
    intro u hu
    simp only [dirC, List.mem_cons] at hu
    rcases hu with rfl | rfl | rfl | hu
    · rfl
    · rfl
    · rfl
    · exact ih u hu
theorem dirC_get (l : List Ctl.Dir) (k : Nat) (h : k < l.length) : (dirC l)[k * 3]? = some (.string (bs l[k].1)) ∧ (dirC l)[k * 3 + 1]? = some (.string (bs l[k].2.1)) ∧ (dirC l)[k * 3 + 2]? = some (.bool l[k].2.2) := by
  induction l generalizing k with
  | nil => simp at h
  | cons f r ih =>
    cases k with
    | zero => exact ⟨rfl, rfl, rfl⟩
    | succ k =>
      obtain ⟨h1, h2, h3⟩ := ih k (by simpa using h)
      refine ⟨?_, ?_, ?_⟩
      · rw [show (k + 1) * 3 = k * 3 + 1 + 1 + 1 by omega]; simpa [dirC] using h1
      · rw [show (k + 1) * 3 + 1 = (k * 3 + 1) + 1 + 1 + 1 by omega]; simpa [dirC] using h2
      · rw [show (k + 1) * 3 + 2 = (k * 3 + 2) + 1 + 1 + 1 by omega]; simpa [dirC] using h3
def RdD (w : World) (A : Option Addr) (n : Nat) (l : List Ctl.Dir) : Prop := l.length = n ∧ Rd w 3 A n (dirC l)
theorem RdD.step {w w' : World} {A : Option Addr} {n : Nat} {l : List Ctl.Dir} (h : RdD w A n l) (hb : Below w.heap.size w w') : RdD w' A n l := ⟨h.1, h.2.step hb⟩
theorem RdD.nil (w : World) (A : Option Addr) : RdD w A 0 [] := ⟨rfl, Rd.nil w 3 A⟩
theorem RdD.at_ {w : World} {A : Option Addr} {n : Nat} {l : List Ctl.Dir} (h : RdD w A n l) {k : Nat} (hk : k < n) : ∃ g o x, A = some ⟨g, o, none⟩ ∧ g < w.heap.size ∧ Hid (l[k]? = some x) ∧
    w.cell? ⟨g, o + k * 3, none⟩ = some (.string (bs x.1)) ∧ w.cell? ⟨g, o + k * 3 + 1, none⟩ = some (.string (bs x.2.1)) ∧ w.cell? ⟨g, o + k * 3 + 2, none⟩ = some (.bool x.2.2) := by
  obtain ⟨g, o, e, hg, hc⟩ := h.2.2 (by omega)
  have hk' : k < l.length := by rw [h.1]; exact hk
  obtain ⟨h1, h2, h3⟩ := dirC_get l k hk'
  refine ⟨g, o, l[k], e, hg, Lib.hid (List.getElem?_eq_getElem hk'), hc _ _ h1, ?_, ?_⟩
  · rw [Nat.add_assoc]; exact hc _ _ h2
  · rw [Nat.add_assoc]; exact hc _ _ h3
def OwnD (w : World) (B : Nat) (v : Value) (l : List Ctl.Dir) : Prop := w.ownsRow B 85 3 v l.length (dirC l)
theorem OwnD.rd {w : World} {B n c : Nat} {A : Option Addr} {l : List Ctl.Dir} (h : OwnD w B (.slice A n c) l) : RdD w A n l := by
  have h' : w.ownsRow B 85 3 (.slice A n c) l.length (dirC l) := h
  obtain ⟨A', c', e⟩ := own_slice h'
  injection e with e1 e2 e3
  subst e1 e2
  exact ⟨rfl, Rd.of_own h'⟩
theorem OwnD.made (w : World) : OwnD (w.alloc (.cells #[] 85)) w.heap.size (.slice (some ⟨w.heap.size, 0, none⟩) 0 0) [] := own_made0 w _ 3 #[] rfl
theorem OwnD.step {w w' : World} {B : Nat} {v : Value} {l : List Ctl.Dir} (h : OwnD w B v l) (hb : Below w.heap.size w w') : OwnD w' B v l := own_step h hb
theorem OwnD.mono {w : World} {B B' : Nat} {v : Value} {l : List Ctl.Dir} (h : OwnD w B v l) (hb : B' ≤ B) : OwnD w B' v l := own_mono h hb
theorem OwnD.one (w : World) (x : Ctl.Dir) : OwnD (w.alloc (.cells #[.string (bs x.1), .string (bs x.2.1), .bool x.2.2] 85)) w.heap.size (.slice (some ⟨w.heap.size, 0, none⟩) 1 1) [x] :=
  World.ownsRow_lit (size := 3) w #[.string (bs x.1), .string (bs x.2.1), .bool x.2.2] 1 (Nat.le_refl _) (by decide) rfl
theorem one_rdD (w : World) (x : Ctl.Dir) : RdD (w.alloc (.cells #[.string (bs x.1), .string (bs x.2.1), .bool x.2.2] 85)) (some ⟨w.heap.size, 0, none⟩) 1 [x] := (OwnD.one w x).rd
theorem sep_ofD {w : World} {B : Nat} {v : Value} {l : List Ctl.Dir} {A : Option Addr} {n c : Nat} {w2 : World} {E : List (List UInt8)} (hv : OwnD w B v l) (hu : OwnS w2 w.heap.size (.slice A n c) E) : Sep v A n := by
  intro _ g o hA he
  have h1 := (World.ownsRow.lt hv g he).2
  have h2 := (World.ownsRow.lt hu g (by rw [hA]; rfl)).1
  omega
theorem dir_info : (Tryz.prog.info? 85).map (fun i => (i.zero, i.size, i.bytes)) = some (some (.agg #[.string ⟨#[]⟩, .string ⟨#[]⟩, .bool false]), 3, 40) := by kernel_rfl
section
variable {w : World} {ops : Array Oper} {rest : List Oper} {o : Oper} {a : Act} {Q : Exit → Act → World → Prop}
theorem wp_appD3 (hgd : o.guard = none) (s x : Operand) (ho : o.op = .call { callee := .builtin .append, args := #[s, x], argTypes := #[81, 81] })
    (base : Nat) (v : Value) (l : List Ctl.Dir) (hs : a.eval s = v) (hown : OwnD w base v l) (A : Option Addr) (m c : Nat) (news : List Ctl.Dir) (hx : a.eval x = .slice A m c) (hr : RdD w A m news)
    (hbytes : (l.length + m) * 40 ≤ 140737488355328) (hbase : base ≤ w.heap.size) {A2 : Option Addr} {n2 : Nat} {l2 : List (List UInt8)} (hE : RdS w A2 n2 l2) (hsep : Sep v A2 n2) {A3 : Option Addr} {n3 : Nat} {l3 : List (List UInt8)} (hE3 : RdS w A3 n3 l3) (hsep3 : Sep v A3 n3)
    (h : ∀ A' n' c' w', OwnD w' base (.slice A' n' c') (l ++ news) → Below base w w' → RdS w' A2 n2 l2 → Sep (.slice A' n' c') A2 n2 → RdS w' A3 n3 l3 → Sep (.slice A' n' c') A3 n3 → Hid (n' = l.length + m) → wpList Tryz.prog ops Q rest (a.put o.dst (.slice A' n' c')) w') : wpList Tryz.prog ops Q (o :: rest) a w := by
  obtain ⟨i0, hi, hz0, hz1, hz2⟩ := info_parts dir_info
  have h63 : l.length + m ≤ maxLen := by unfold maxLen; omega
  refine wpList_append_any w hgd s x _ ho base _ i0 _ 3 40 Tryz.underlying81 hi hz0 hz1 hz2 rfl (by omega) v l.length (dirC l) hs hown A m c (dirC news) hx hr.2 (dirC_one _) h63 hbytes hbase fun v' w' h2 h3 h4 => ?_
  obtain ⟨A', c', rfl⟩ := own_slice h2
  obtain ⟨r1, r2⟩ := sep_rd hE.2 hsep h3 h4
  obtain ⟨r3, r4⟩ := sep_rd hE3.2 hsep3 h3 h4
  refine h A' _ c' w' ?_ ((Below.refl base w).grown h3 hbase fun k hk => (World.ownsRow.lt hown k hk).1) ⟨hE.1, r1⟩ r2 ⟨hE3.1, r3⟩ r4 (Lib.hid rfl)
  unfold OwnD
  rw [List.length_append, hr.1, dirC_append]
  exact h2
end
end Go.Proofs.YtfhkgbimnfjfhaaGreatDoor
set_option linter.unusedVariables false
set_option linter.unusedSimpArgs false
namespace Go.Proofs.YtfhkgbimnfjfhaaGreatDoor
open Go.RowKit

set_option maxRecDepth 100000
theorem rq_esc {d : UInt8} {r : List UInt8} : Ctl.rq (92 :: d :: r) = if Ctl.txt d = true then (Ctl.rq r).map (d :: ·) else none := by rw [Ctl.rq, if_pos rfl]
theorem rq_esc2 : Ctl.rq [92] = none := rfl
theorem rq_quo : ∀ r : List UInt8, Ctl.rq (34 :: r) = none
  | [] => rfl
  | _ :: _ => by rw [Ctl.rq, if_neg (by decide), if_pos rfl]
theorem rq_txt {c : UInt8} (h1 : c ≠ 34) (h2 : c ≠ 92) : ∀ r : List UInt8, Ctl.rq (c :: r) = if Ctl.txt c = true then (Ctl.rq r).map (c :: ·) else none
  | [] => by simp [Ctl.rq, h1, h2]
  | d :: r => by rw [Ctl.rq, if_neg h2, if_neg h1]
theorem runq_no {s : List UInt8} (h : s.length < 2 ∨ s.head? ≠ some 34 ∨ s.getLast? ≠ some 34) : Ctl.unq s = none := by
  rw [← Ctl.unq_eq]
  unfold Ctl.runq
  rw [if_neg]
  rintro ⟨h1, h2, h3⟩
  rcases h with h | h | h
  · omega
  · exact h h2
  · exact h h3
theorem runq_yes {s : List UInt8} (h : 2 ≤ s.length) (h1 : s.head? = some 34) (h2 : s.getLast? = some 34) : Ctl.unq s = Ctl.rq (s.tail.take (s.length - 1 - 1)) := by
  rw [← Ctl.unq_eq, ← List.drop_one]
  unfold Ctl.runq
  rw [if_pos ⟨h, h1, h2⟩, List.dropLast_eq_take]
  congr 2
  simp
set_option maxHeartbeats 8000000 in
theorem unquoteR_any (s : List UInt8) (w : World) (hs : s.length ≤ 1073741824) :
    Calls Tryz.prog 84 #[.string (bs s)] w fun e w' => e = .returned (unqV (Ctl.unq s)) ∧ Below w.heap.size w w' := by
  have HNo : Hid (∀ U : Option (List UInt8), U = none → unqV U = .tuple #[.string (bs []), .int .i64 11]) := Lib.hid fun U h => by rw [h]; rfl
  have HYe : Hid (∀ (U : Option (List UInt8)) r, U = some r → unqV U = .tuple #[.string (bs r), .int .i64 0]) := Lib.hid fun U r h => by rw [h]; rfl
  by_cases h2 : s.length < 2
  · have HF := Lib.hid (HNo.out _ (runq_no (.inl h2)))
    generalize Ctl.unq s = U at *
    clear HNo HYe
    go_enter Tryz.func84, Tryz.ntmps84
    go_wp2
    go_ret2
    exact ⟨ret_v HF.out.symm, Below.refl _ _⟩
  have hlen : 2 ≤ s.length := by omega
  have h0 : 0 < s.length := by omega
  have hl1 : s.length - 1 < s.length := by omega
  have hhead : s.head? = some s[0] := by rw [List.head?_eq_getElem?, List.getElem?_eq_getElem h0]
  have hlast : s.getLast? = some s[s.length - 1] := by rw [List.getLast?_eq_getElem?, List.getElem?_eq_getElem hl1]
  by_cases ha : s[0] = 34
  · have ea := u8eqk ha 34 rfl
    have na : ((s[0].toNat : Int) != 34) = false := by rw [bne, ea]; rfl
    by_cases hb : s[s.length - 1] = 34
    · have eb := u8eqk hb 34 rfl
      have nb : ((s[s.length - 1].toNat : Int) != 34) = false := by rw [bne, eb]; rfl
      rw [runq_yes hlen (by rw [hhead, ha]) (by rw [hlast, hb])]
      have hIl : (s.tail.take (s.length - 1 - 1)).length ≤ 1073741824 := by simp; omega
      obtain ⟨U, hUe⟩ : ∃ U, U = Ctl.rq (s.tail.take (s.length - 1 - 1)) := ⟨_, rfl⟩
      have H0 : Hid ((Ctl.rq ((s.tail.take (s.length - 1 - 1)).drop 0)).map (([] : List UInt8) ++ ·) = U) := Lib.hid (by rw [hUe, List.drop_zero]; cases Ctl.rq (s.tail.take (s.length - 1 - 1)) <;> rfl)
      rw [← hUe]
      clear hUe hhead hlast ha hb h2
      go_enter Tryz.func84, Tryz.ntmps84
      go_upto_region 5 with fail
      generalize s.tail.take (s.length - 1 - 1) = I at *
      clear ea na eb nb
      have hm := OwnB.made w
      have hbm := alloc_below w (.cells #[] 5)
      go_wp2
      go_loopw [5, 6] (fun v t wr => ∃ (i : Nat) (acc : List UInt8) (A : Option Addr) (n c : Nat), i ≤ I.length ∧ t = .int .i64 (i : Int) ∧ v = .slice A n c ∧ OwnB wr w.heap.size (.slice A n c) acc ∧ acc.length ≤ i ∧ Hid ((Ctl.rq (I.drop i)).map (acc ++ ·) = U) ∧ Below w.heap.size w wr) (fun _ t _ => I.length - (intOf t).toNat)
      case atStart => exact ⟨0, [], _, _, _, by omega, rfl, rfl, hm, by simp, H0, hbm⟩
      case round =>
        obtain ⟨i, acc, A, n, c, hi, rfl, rfl, hown, hacl, HU, hbr⟩ := hrel
        clear hm hbm H0
        obtain ⟨wo, rfl⟩ : ∃ wo, wo = wr := ⟨_, rfl⟩
        by_cases hlt : i < I.length
        · have hdr : I.drop i = I[i] :: I.drop (i + 1) := List.drop_eq_getElem_cons hlt
          have hU1 := HU.out
          rw [hdr] at hU1
          clear hdr HU
          by_cases h92 : I[i] = 92
          · have e92 := u8eqk h92 92 rfl
            rw [h92] at hU1
            by_cases hsh : I.length ≤ i + 1
            · have HF := Lib.hid (HNo.out U (by rw [← hU1, List.drop_eq_nil_of_le hsh]; rfl))
              clear hU1 h92 HNo HYe
              go_wp2
              go_ret2
              exact ⟨ret_v HF.out.symm, hbr⟩
            · have hi1 : i + 1 < I.length := by omega
              rw [List.drop_eq_getElem_cons hi1, rq_esc] at hU1
              clear h92
              have HTx := Lib.hid fun W => textR_any I[i + 1] W
              cases hx : Ctl.txt I[i + 1] with
              | false =>
                rw [hx, if_neg (by simp)] at hU1
                rw [hx] at HTx
                have HF := Lib.hid (HNo.out U (by rw [← hU1]; rfl))
                clear hU1 HNo HYe hx
                go_wp2_with fail
                refine (HTx.out _).mono ?_
                rintro e w4 ⟨rfl, rfl⟩
                go_wp2
                go_ret2
                exact ⟨ret_v HF.out.symm, hbr⟩
              | true =>
                rw [hx, if_pos rfl] at hU1
                rw [hx] at HTx
                have HN : Hid ((Ctl.rq (I.drop (i + 2))).map ((acc ++ [I[i + 1]]) ++ ·) = U) := Lib.hid (by rw [← hU1]; cases Ctl.rq (I.drop (i + 2)) <;> simp)
                clear hU1 HNo HYe hx
                go_wp2_with fail
                refine (HTx.out _).mono ?_
                rintro e w4 ⟨rfl, rfl⟩
                go_wp2_with
                  (at_builtin
                   refine wp_appB rfl (.tmp 55) (.tmp 57) rfl w.heap.size (.slice A n c) _ rfl (hown.step (alloc_below _ _)) _ 1 1 [I[i + 1]] rfl (one_rdB _ _ _) ?hby ?hbase ?_
                   case hby => omega
                   case hbase => have := hbr.size; simp; omega
                   intro A1 n1 c1 w5 hown1 hb1 hn1)
                go_roundw
                case rel => exact ⟨i + 2, acc ++ [I[i + 1]], A1, n1, c1, by omega, by go_num, rfl, hown1, by simp; omega, HN, (bnext hbr (alloc_below _ _) hbr.size).trans hb1⟩
                case measure => simp [intOf]; omega
          · have e92 := u8nek h92 92 rfl
            by_cases h34 : I[i] = 34
            · have e34 := u8eqk h34 34 rfl
              have HF := Lib.hid (HNo.out U (by rw [← hU1, h34, rq_quo]; rfl))
              clear hU1 h34 h92 HNo HYe
              go_wp2
              go_ret2
              exact ⟨ret_v HF.out.symm, hbr⟩
            · have e34 := u8nek h34 34 rfl
              rw [rq_txt h34 h92] at hU1
              clear h34 h92
              have HTx := Lib.hid fun W => textR_any I[i] W
              cases hx : Ctl.txt I[i] with
              | false =>
                rw [hx, if_neg (by simp)] at hU1
                rw [hx] at HTx
                have HF := Lib.hid (HNo.out U (by rw [← hU1]; rfl))
                clear hU1 HNo HYe hx
                go_wp2_with fail
                refine (HTx.out _).mono ?_
                rintro e w4 ⟨rfl, rfl⟩
                go_wp2
                go_ret2
                exact ⟨ret_v HF.out.symm, hbr⟩
              | true =>
                rw [hx, if_pos rfl] at hU1
                rw [hx] at HTx
                have HN : Hid ((Ctl.rq (I.drop (i + 1))).map ((acc ++ [I[i]]) ++ ·) = U) := Lib.hid (by rw [← hU1]; cases Ctl.rq (I.drop (i + 1)) <;> simp)
                clear hU1 HNo HYe hx
                go_wp2_with fail
                refine (HTx.out _).mono ?_
                rintro e w4 ⟨rfl, rfl⟩
                go_wp2_with
                  (at_builtin
                   refine wp_appB rfl (.tmp 55) (.tmp 57) rfl w.heap.size (.slice A n c) _ rfl (hown.step (alloc_below _ _)) _ 1 1 [I[i]] rfl (one_rdB _ _ _) ?hby ?hbase ?_
                   case hby => omega
                   case hbase => have := hbr.size; simp; omega
                   intro A1 n1 c1 w5 hown1 hb1 hn1)
                go_roundw
                case rel => exact ⟨i + 1, acc ++ [I[i]], A1, n1, c1, by omega, by go_num, rfl, hown1, by simp; omega, HN, (bnext hbr (alloc_below _ _) hbr.size).trans hb1⟩
                case measure => simp [intOf]; omega
        · have hU1 := HU.out
          rw [List.drop_eq_nil_of_le (by omega)] at hU1
          have HF := Lib.hid (HYe.out U acc (by rw [← hU1, show Ctl.rq [] = some [] from rfl]; simp))
          have hcb := conv_bs (w := wo) (A := A) (n := n) (l := acc) hown.rd c
          clear hU1 HU HNo HYe
          go_wp2
          go_ret2
          exact ⟨ret_v HF.out.symm, hbr⟩
    · have eb := u8nek hb 34 rfl
      have nb : ((s[s.length - 1].toNat : Int) != 34) = true := by rw [bne, eb]; rfl
      have HF := Lib.hid (HNo.out _ (runq_no (.inr (.inr (by rw [hlast]; simpa using hb)))))
      generalize Ctl.unq s = U at *
      clear HNo HYe hhead hlast ha hb h2
      go_enter Tryz.func84, Tryz.ntmps84
      go_wp2
      go_ret2
      exact ⟨ret_v HF.out.symm, Below.refl _ _⟩
  · have ea := u8nek ha 34 rfl
    have na : ((s[0].toNat : Int) != 34) = true := by rw [bne, ea]; rfl
    have HF := Lib.hid (HNo.out _ (runq_no (.inr (.inl (by rw [hhead]; simpa using ha)))))
    generalize Ctl.unq s = U at *
    clear HNo HYe hhead hlast ha h2
    go_enter Tryz.func84, Tryz.ntmps84
    go_wp2
    go_ret2
    exact ⟨ret_v HF.out.symm, Below.refl _ _⟩
end Go.Proofs.YtfhkgbimnfjfhaaGreatDoor
