/- The reference's Unquote. Conditions: the text's length at most 2^30. -/
import Derived.Test.YtfhkgbimnfjfhaaDoorUnq
set_option linter.unusedVariables false
set_option linter.unusedSimpArgs false
namespace Go.Proofs.YtfhkgbimnfjfhaaDoor
open Go.RowKit

set_option maxRecDepth 100000
theorem rq_esc {d : UInt8} {r : List UInt8} : Ctl.rq (92 :: d :: r) = if Ctl.txt d = true then (Ctl.rq r).map (d :: ·) else none := by rw [Ctl.rq, if_pos rfl]
theorem rq_esc2 : Ctl.rq [92] = none := rfl
theorem rq_quo : ∀ r : List UInt8, Ctl.rq (34 :: r) = none
  | [] => rfl
  | _ :: _ => by rw [Ctl.rq, if_neg (by decide), if_pos rfl]
theorem rq_txt {c : UInt8} (h1 : c ≠ 34) (h2 : c ≠ 92) : ∀ r : List UInt8, Ctl.rq (c :: r) = if Ctl.txt c = true then (Ctl.rq r).map (c :: ·) else none
  | [] => by simp [Ctl.rq, h1, h2]
  | d :: r => by rw [Ctl.rq, if_neg h2, if_neg h1]
theorem runq_no {s : List UInt8} (h : s.length < 2 ∨ s.head? ≠ some 34 ∨ s.getLast? ≠ some 34) : Ctl.unq s = none := by
  rw [← Ctl.unq_eq]
  unfold Ctl.runq
  rw [if_neg]
  rintro ⟨h1, h2, h3⟩
  rcases h with h | h | h
  · omega
  · exact h h2
  · exact h h3
theorem runq_yes {s : List UInt8} (h : 2 ≤ s.length) (h1 : s.head? = some 34) (h2 : s.getLast? = some 34) : Ctl.unq s = Ctl.rq (s.tail.take (s.length - 1 - 1)) := by
  rw [← Ctl.unq_eq, ← List.drop_one]
  unfold Ctl.runq
  rw [if_pos ⟨h, h1, h2⟩, List.dropLast_eq_take]
  congr 2
  simp
set_option maxHeartbeats 8000000 in
theorem unquoteR_any (s : List UInt8) (w : World) (hs : s.length ≤ 1073741824) :
    Calls Tryd.prog 50 #[.string (bs s)] w fun e w' => e = .returned (unqV (Ctl.unq s)) ∧ Below w.heap.size w w' := by
  have HNo : Hid (∀ U : Option (List UInt8), U = none → unqV U = .tuple #[.string (bs []), .int .i64 11]) := Lib.hid fun U h => by rw [h]; rfl
  have HYe : Hid (∀ (U : Option (List UInt8)) r, U = some r → unqV U = .tuple #[.string (bs r), .int .i64 0]) := Lib.hid fun U r h => by rw [h]; rfl
  by_cases h2 : s.length < 2
  · have HF := Lib.hid (HNo.out _ (runq_no (.inl h2)))
    generalize Ctl.unq s = U at *
    clear HNo HYe
    go_enter Tryd.func50, Tryd.ntmps50
    go_wp2
    go_ret2
    exact ⟨ret_v HF.out.symm, Below.refl _ _⟩
  have hlen : 2 ≤ s.length := by omega
  have h0 : 0 < s.length := by omega
  have hl1 : s.length - 1 < s.length := by omega
  have hhead : s.head? = some s[0] := by rw [List.head?_eq_getElem?, List.getElem?_eq_getElem h0]
  have hlast : s.getLast? = some s[s.length - 1] := by rw [List.getLast?_eq_getElem?, List.getElem?_eq_getElem hl1]
  by_cases ha : s[0] = 34
  · have ea := u8eqk ha 34 rfl
    have na : ((s[0].toNat : Int) != 34) = false := by rw [bne, ea]; rfl
    by_cases hb : s[s.length - 1] = 34
    · have eb := u8eqk hb 34 rfl
      have nb : ((s[s.length - 1].toNat : Int) != 34) = false := by rw [bne, eb]; rfl
      rw [runq_yes hlen (by rw [hhead, ha]) (by rw [hlast, hb])]
      have hIl : (s.tail.take (s.length - 1 - 1)).length ≤ 1073741824 := by simp; omega
      obtain ⟨U, hUe⟩ : ∃ U, U = Ctl.rq (s.tail.take (s.length - 1 - 1)) := ⟨_, rfl⟩
      have H0 : Hid ((Ctl.rq ((s.tail.take (s.length - 1 - 1)).drop 0)).map (([] : List UInt8) ++ ·) = U) := Lib.hid (by rw [hUe, List.drop_zero]; cases Ctl.rq (s.tail.take (s.length - 1 - 1)) <;> rfl)
      rw [← hUe]
      clear hUe hhead hlast ha hb h2
      go_enter Tryd.func50, Tryd.ntmps50
      go_upto_region 5 with fail
      generalize s.tail.take (s.length - 1 - 1) = I at *
      clear ea na eb nb
      have hm := OwnB.made w
      have hbm := alloc_below w (.cells #[] 5)
      go_wp2
      go_loopw [5, 6] (fun v t wr => ∃ (i : Nat) (acc : List UInt8) (A : Option Addr) (n c : Nat), i ≤ I.length ∧ t = .int .i64 (i : Int) ∧ v = .slice A n c ∧ OwnB wr w.heap.size (.slice A n c) acc ∧ acc.length ≤ i ∧ Hid ((Ctl.rq (I.drop i)).map (acc ++ ·) = U) ∧ Below w.heap.size w wr) (fun _ t _ => I.length - (intOf t).toNat)
      case atStart => exact ⟨0, [], _, _, _, by omega, rfl, rfl, hm, by simp, H0, hbm⟩
      case round =>
        obtain ⟨i, acc, A, n, c, hi, rfl, rfl, hown, hacl, HU, hbr⟩ := hrel
        clear hm hbm H0
        obtain ⟨wo, rfl⟩ : ∃ wo, wo = wr := ⟨_, rfl⟩
        by_cases hlt : i < I.length
        · have hdr : I.drop i = I[i] :: I.drop (i + 1) := List.drop_eq_getElem_cons hlt
          have hU1 := HU.out
          rw [hdr] at hU1
          clear hdr HU
          by_cases h92 : I[i] = 92
          · have e92 := u8eqk h92 92 rfl
            rw [h92] at hU1
            by_cases hsh : I.length ≤ i + 1
            · have HF := Lib.hid (HNo.out U (by rw [← hU1, List.drop_eq_nil_of_le hsh]; rfl))
              clear hU1 h92 HNo HYe
              go_wp2
              go_ret2
              exact ⟨ret_v HF.out.symm, hbr⟩
            · have hi1 : i + 1 < I.length := by omega
              rw [List.drop_eq_getElem_cons hi1, rq_esc] at hU1
              clear h92
              have HTx := Lib.hid fun W => textR_any I[i + 1] W
              cases hx : Ctl.txt I[i + 1] with
              | false =>
                rw [hx, if_neg (by simp)] at hU1
                rw [hx] at HTx
                have HF := Lib.hid (HNo.out U (by rw [← hU1]; rfl))
                clear hU1 HNo HYe hx
                go_wp2_with fail
                refine (HTx.out _).mono ?_
                rintro e w4 ⟨rfl, rfl⟩
                go_wp2
                go_ret2
                exact ⟨ret_v HF.out.symm, hbr⟩
              | true =>
                rw [hx, if_pos rfl] at hU1
                rw [hx] at HTx
                have HN : Hid ((Ctl.rq (I.drop (i + 2))).map ((acc ++ [I[i + 1]]) ++ ·) = U) := Lib.hid (by rw [← hU1]; cases Ctl.rq (I.drop (i + 2)) <;> simp)
                clear hU1 HNo HYe hx
                go_wp2_with fail
                refine (HTx.out _).mono ?_
                rintro e w4 ⟨rfl, rfl⟩
                go_wp2_with
                  (at_builtin
                   refine wp_appB rfl (.tmp 55) (.tmp 57) rfl w.heap.size (.slice A n c) _ rfl (hown.step (alloc_below _ _)) _ 1 1 [I[i + 1]] rfl (one_rdB _ _ _) ?hby ?hbase ?_
                   case hby => omega
                   case hbase => have := hbr.size; simp; omega
                   intro A1 n1 c1 w5 hown1 hb1 hn1)
                go_roundw
                case rel => exact ⟨i + 2, acc ++ [I[i + 1]], A1, n1, c1, by omega, by go_num, rfl, hown1, by simp; omega, HN, (bnext hbr (alloc_below _ _) hbr.size).trans hb1⟩
                case measure => simp [intOf]; omega
          · have e92 := u8nek h92 92 rfl
            by_cases h34 : I[i] = 34
            · have e34 := u8eqk h34 34 rfl
              have HF := Lib.hid (HNo.out U (by rw [← hU1, h34, rq_quo]; rfl))
              clear hU1 h34 h92 HNo HYe
              go_wp2
              go_ret2
              exact ⟨ret_v HF.out.symm, hbr⟩
            · have e34 := u8nek h34 34 rfl
              rw [rq_txt h34 h92] at hU1
              clear h34 h92
              have HTx := Lib.hid fun W => textR_any I[i] W
              cases hx : Ctl.txt I[i] with
              | false =>
                rw [hx, if_neg (by simp)] at hU1
                rw [hx] at HTx
                have HF := Lib.hid (HNo.out U (by rw [← hU1]; rfl))
                clear hU1 HNo HYe hx
                go_wp2_with fail
                refine (HTx.out _).mono ?_
                rintro e w4 ⟨rfl, rfl⟩
                go_wp2
                go_ret2
                exact ⟨ret_v HF.out.symm, hbr⟩
              | true =>
                rw [hx, if_pos rfl] at hU1
                rw [hx] at HTx
                have HN : Hid ((Ctl.rq (I.drop (i + 1))).map ((acc ++ [I[i]]) ++ ·) = U) := Lib.hid (by rw [← hU1]; cases Ctl.rq (I.drop (i + 1)) <;> simp)
                clear hU1 HNo HYe hx
                go_wp2_with fail
                refine (HTx.out _).mono ?_
                rintro e w4 ⟨rfl, rfl⟩
                go_wp2_with
                  (at_builtin
                   refine wp_appB rfl (.tmp 55) (.tmp 57) rfl w.heap.size (.slice A n c) _ rfl (hown.step (alloc_below _ _)) _ 1 1 [I[i]] rfl (one_rdB _ _ _) ?hby ?hbase ?_
                   case hby => omega
                   case hbase => have := hbr.size; simp; omega
                   intro A1 n1 c1 w5 hown1 hb1 hn1)
                go_roundw
                case rel => exact ⟨i + 1, acc ++ [I[i]], A1, n1, c1, by omega, by go_num, rfl, hown1, by simp; omega, HN, (bnext hbr (alloc_below _ _) hbr.size).trans hb1⟩
                case measure => simp [intOf]; omega
        · have hU1 := HU.out
          rw [List.drop_eq_nil_of_le (by omega)] at hU1
          have HF := Lib.hid (HYe.out U acc (by rw [← hU1, show Ctl.rq [] = some [] from rfl]; simp))
          have hcb := conv_bs (w := wo) (A := A) (n := n) (l := acc) hown.rd c
          clear hU1 HU HNo HYe
          go_wp2
          go_ret2
          exact ⟨ret_v HF.out.symm, hbr⟩
    · have eb := u8nek hb 34 rfl
      have nb : ((s[s.length - 1].toNat : Int) != 34) = true := by rw [bne, eb]; rfl
      have HF := Lib.hid (HNo.out _ (runq_no (.inr (.inr (by rw [hlast]; simpa using hb)))))
      generalize Ctl.unq s = U at *
      clear HNo HYe hhead hlast ha hb h2
      go_enter Tryd.func50, Tryd.ntmps50
      go_wp2
      go_ret2
      exact ⟨ret_v HF.out.symm, Below.refl _ _⟩
  · have ea := u8nek ha 34 rfl
    have na : ((s[0].toNat : Int) != 34) = true := by rw [bne, ea]; rfl
    have HF := Lib.hid (HNo.out _ (runq_no (.inr (.inl (by rw [hhead]; simpa using ha)))))
    generalize Ctl.unq s = U at *
    clear HNo HYe hhead hlast ha h2
    go_enter Tryd.func50, Tryd.ntmps50
    go_wp2
    go_ret2
    exact ⟨ret_v HF.out.symm, Below.refl _ _⟩
end Go.Proofs.YtfhkgbimnfjfhaaDoor
