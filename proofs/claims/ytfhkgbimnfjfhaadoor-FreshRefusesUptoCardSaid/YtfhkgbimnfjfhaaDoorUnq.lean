/- Unquote, the program's and the reference's. Conditions: the text's length at most 2^30. -/
import Derived.Test.YtfhkgbimnfjfhaaDoorCtl
import Derived.Test.YtfhkgbimnfjfhaaDoorDig
import Derived.Test.YtfhkgbimnfjfhaaDoorBld
import Derived.Test.YtfhkgbimnfjfhaaDoorPre
import Derived.Test.YtfhkgbimnfjfhaaDoorSplit
import Derived.Deep.LoopGhost
import Derived.Deep.Cut
import Derived.Deep.DeepCutAuto
set_option linter.unusedVariables false
set_option linter.unusedSimpArgs false
namespace Go.Proofs.YtfhkgbimnfjfhaaDoor
open Go.RowKit

set_option maxRecDepth 100000
theorem txt_tab : ∀ n : Fin 256, Ctl.txt (UInt8.ofNat n.val) = (decide ((UInt8.ofNat n.val).toNat = 9) || (decide (32 ≤ (UInt8.ofNat n.val).toNat) && !decide ((UInt8.ofNat n.val).toNat = 127))) := by decide +kernel
theorem txt_nat (c : UInt8) : Ctl.txt c = (decide (c.toNat = 9) || (decide (32 ≤ c.toNat) && !decide (c.toNat = 127))) := by
  obtain ⟨n, rfl⟩ := u8_all c
  exact txt_tab n
set_option maxHeartbeats 2000000 in
theorem textByte_any (c : UInt8) (w : World) : Calls Tryd.prog 55 #[.int .u8 c.toNat] w fun e w' => e = .returned (.bool (Ctl.txt c)) ∧ w = w' := by
  have HV := Lib.hid (txt_nat c)
  generalize Ctl.txt c = V at *
  have h255 := c.toNat_lt
  have hr : (c.toNat < 9) ∨ (c.toNat = 9) ∨ (10 ≤ c.toNat ∧ c.toNat ≤ 31) ∨ (32 ≤ c.toNat ∧ c.toNat ≤ 126) ∨ (c.toNat = 127) ∨ (128 ≤ c.toNat) := by omega
  rcases hr with h | h | h | h | h | h
  · have HW : Hid (V = false) := Lib.hid (by rw [HV.out]; simp; omega)
    have a0 : ¬ 32 ≤ c.toNat := by omega
    have e9 : ((c.toNat : Int) == 9) = false := by rw [beq_eq_false_iff_ne]; omega
    have e127 : ((c.toNat : Int) == 127) = false := by rw [beq_eq_false_iff_ne]; omega
    have n127 : ((c.toNat : Int) != 127) = true := by rw [bne, e127]; rfl
    clear HV h h255
    go_enter Tryd.func55, Tryd.ntmps55
    go_wp2
    all_goals
      go_ret
      exact ⟨ret_bool (by first | (rw [HW.out]; done) | (rw [HW.out]; simp; done) | (rw [HW.out]; simp; omega)), rfl⟩
  · have HW : Hid (V = true) := Lib.hid (by rw [HV.out]; simp; omega)
    have a0 : ¬ 32 ≤ c.toNat := by omega
    have e9 : ((c.toNat : Int) == 9) = true := by rw [beq_iff_eq]; omega
    have e127 : ((c.toNat : Int) == 127) = false := by rw [beq_eq_false_iff_ne]; omega
    have n127 : ((c.toNat : Int) != 127) = true := by rw [bne, e127]; rfl
    clear HV h h255
    go_enter Tryd.func55, Tryd.ntmps55
    go_wp2
    all_goals
      go_ret
      exact ⟨ret_bool (by first | (rw [HW.out]; done) | (rw [HW.out]; simp; done) | (rw [HW.out]; simp; omega)), rfl⟩
  · have HW : Hid (V = false) := Lib.hid (by rw [HV.out]; simp; omega)
    have a0 : ¬ 32 ≤ c.toNat := by omega
    have e9 : ((c.toNat : Int) == 9) = false := by rw [beq_eq_false_iff_ne]; omega
    have e127 : ((c.toNat : Int) == 127) = false := by rw [beq_eq_false_iff_ne]; omega
    have n127 : ((c.toNat : Int) != 127) = true := by rw [bne, e127]; rfl
    clear HV h h255
    go_enter Tryd.func55, Tryd.ntmps55
    go_wp2
    all_goals
      go_ret
      exact ⟨ret_bool (by first | (rw [HW.out]; done) | (rw [HW.out]; simp; done) | (rw [HW.out]; simp; omega)), rfl⟩
  · have HW : Hid (V = true) := Lib.hid (by rw [HV.out]; simp; omega)
    have a0 : 32 ≤ c.toNat := by omega
    have e9 : ((c.toNat : Int) == 9) = false := by rw [beq_eq_false_iff_ne]; omega
    have e127 : ((c.toNat : Int) == 127) = false := by rw [beq_eq_false_iff_ne]; omega
    have n127 : ((c.toNat : Int) != 127) = true := by rw [bne, e127]; rfl
    clear HV h h255
    go_enter Tryd.func55, Tryd.ntmps55
    go_wp2
    all_goals
      go_ret
      exact ⟨ret_bool (by first | (rw [HW.out]; done) | (rw [HW.out]; simp; done) | (rw [HW.out]; simp; omega)), rfl⟩
  · have HW : Hid (V = false) := Lib.hid (by rw [HV.out]; simp; omega)
    have a0 : 32 ≤ c.toNat := by omega
    have e9 : ((c.toNat : Int) == 9) = false := by rw [beq_eq_false_iff_ne]; omega
    have e127 : ((c.toNat : Int) == 127) = true := by rw [beq_iff_eq]; omega
    have n127 : ((c.toNat : Int) != 127) = false := by rw [bne, e127]; rfl
    clear HV h h255
    go_enter Tryd.func55, Tryd.ntmps55
    go_wp2
    all_goals
      go_ret
      exact ⟨ret_bool (by first | (rw [HW.out]; done) | (rw [HW.out]; simp; done) | (rw [HW.out]; simp; omega)), rfl⟩
  · have HW : Hid (V = true) := Lib.hid (by rw [HV.out]; simp; omega)
    have a0 : 32 ≤ c.toNat := by omega
    have e9 : ((c.toNat : Int) == 9) = false := by rw [beq_eq_false_iff_ne]; omega
    have e127 : ((c.toNat : Int) == 127) = false := by rw [beq_eq_false_iff_ne]; omega
    have n127 : ((c.toNat : Int) != 127) = true := by rw [bne, e127]; rfl
    clear HV h h255
    go_enter Tryd.func55, Tryd.ntmps55
    go_wp2
    all_goals
      go_ret
      exact ⟨ret_bool (by first | (rw [HW.out]; done) | (rw [HW.out]; simp; done) | (rw [HW.out]; simp; omega)), rfl⟩
set_option maxHeartbeats 2000000 in
theorem textR_any (c : UInt8) (w : World) : Calls Tryd.prog 64 #[.int .u8 c.toNat] w fun e w' => e = .returned (.bool (Ctl.txt c)) ∧ w = w' := by
  have HV := Lib.hid (txt_nat c)
  generalize Ctl.txt c = V at *
  have h255 := c.toNat_lt
  have hr : (c.toNat < 9) ∨ (c.toNat = 9) ∨ (10 ≤ c.toNat ∧ c.toNat ≤ 31) ∨ (32 ≤ c.toNat ∧ c.toNat ≤ 126) ∨ (c.toNat = 127) ∨ (128 ≤ c.toNat) := by omega
  rcases hr with h | h | h | h | h | h
  · have HW : Hid (V = false) := Lib.hid (by rw [HV.out]; simp; omega)
    have a0 : ¬ 32 ≤ c.toNat := by omega
    have e9 : ((c.toNat : Int) == 9) = false := by rw [beq_eq_false_iff_ne]; omega
    have e127 : ((c.toNat : Int) == 127) = false := by rw [beq_eq_false_iff_ne]; omega
    have n127 : ((c.toNat : Int) != 127) = true := by rw [bne, e127]; rfl
    clear HV h h255
    go_enter Tryd.func64, Tryd.ntmps64
    go_wp2
    all_goals
      go_ret
      exact ⟨ret_bool (by first | (rw [HW.out]; done) | (rw [HW.out]; simp; done) | (rw [HW.out]; simp; omega)), rfl⟩
  · have HW : Hid (V = true) := Lib.hid (by rw [HV.out]; simp; omega)
    have a0 : ¬ 32 ≤ c.toNat := by omega
    have e9 : ((c.toNat : Int) == 9) = true := by rw [beq_iff_eq]; omega
    have e127 : ((c.toNat : Int) == 127) = false := by rw [beq_eq_false_iff_ne]; omega
    have n127 : ((c.toNat : Int) != 127) = true := by rw [bne, e127]; rfl
    clear HV h h255
    go_enter Tryd.func64, Tryd.ntmps64
    go_wp2
    all_goals
      go_ret
      exact ⟨ret_bool (by first | (rw [HW.out]; done) | (rw [HW.out]; simp; done) | (rw [HW.out]; simp; omega)), rfl⟩
  · have HW : Hid (V = false) := Lib.hid (by rw [HV.out]; simp; omega)
    have a0 : ¬ 32 ≤ c.toNat := by omega
    have e9 : ((c.toNat : Int) == 9) = false := by rw [beq_eq_false_iff_ne]; omega
    have e127 : ((c.toNat : Int) == 127) = false := by rw [beq_eq_false_iff_ne]; omega
    have n127 : ((c.toNat : Int) != 127) = true := by rw [bne, e127]; rfl
    clear HV h h255
    go_enter Tryd.func64, Tryd.ntmps64
    go_wp2
    all_goals
      go_ret
      exact ⟨ret_bool (by first | (rw [HW.out]; done) | (rw [HW.out]; simp; done) | (rw [HW.out]; simp; omega)), rfl⟩
  · have HW : Hid (V = true) := Lib.hid (by rw [HV.out]; simp; omega)
    have a0 : 32 ≤ c.toNat := by omega
    have e9 : ((c.toNat : Int) == 9) = false := by rw [beq_eq_false_iff_ne]; omega
    have e127 : ((c.toNat : Int) == 127) = false := by rw [beq_eq_false_iff_ne]; omega
    have n127 : ((c.toNat : Int) != 127) = true := by rw [bne, e127]; rfl
    clear HV h h255
    go_enter Tryd.func64, Tryd.ntmps64
    go_wp2
    all_goals
      go_ret
      exact ⟨ret_bool (by first | (rw [HW.out]; done) | (rw [HW.out]; simp; done) | (rw [HW.out]; simp; omega)), rfl⟩
  · have HW : Hid (V = false) := Lib.hid (by rw [HV.out]; simp; omega)
    have a0 : 32 ≤ c.toNat := by omega
    have e9 : ((c.toNat : Int) == 9) = false := by rw [beq_eq_false_iff_ne]; omega
    have e127 : ((c.toNat : Int) == 127) = true := by rw [beq_iff_eq]; omega
    have n127 : ((c.toNat : Int) != 127) = false := by rw [bne, e127]; rfl
    clear HV h h255
    go_enter Tryd.func64, Tryd.ntmps64
    go_wp2
    all_goals
      go_ret
      exact ⟨ret_bool (by first | (rw [HW.out]; done) | (rw [HW.out]; simp; done) | (rw [HW.out]; simp; omega)), rfl⟩
  · have HW : Hid (V = true) := Lib.hid (by rw [HV.out]; simp; omega)
    have a0 : 32 ≤ c.toNat := by omega
    have e9 : ((c.toNat : Int) == 9) = false := by rw [beq_eq_false_iff_ne]; omega
    have e127 : ((c.toNat : Int) == 127) = false := by rw [beq_eq_false_iff_ne]; omega
    have n127 : ((c.toNat : Int) != 127) = true := by rw [bne, e127]; rfl
    clear HV h h255
    go_enter Tryd.func64, Tryd.ntmps64
    go_wp2
    all_goals
      go_ret
      exact ⟨ret_bool (by first | (rw [HW.out]; done) | (rw [HW.out]; simp; done) | (rw [HW.out]; simp; omega)), rfl⟩
theorem uq_esc {d e : UInt8} {r : List UInt8} : Ctl.uq (92 :: d :: e :: r) = if Ctl.txt d = true then (Ctl.uq (e :: r)).map (d :: ·) else none := by
  rw [Ctl.uq, if_neg (by decide), if_pos rfl]
theorem uq_esc2 : ∀ {r : List UInt8}, r.length < 2 → Ctl.uq (92 :: r) = none
  | [], _ => rfl
  | [d], _ => by rw [Ctl.uq, if_neg (by decide), if_pos rfl]
  | _ :: _ :: _, h => by simp at h; omega
theorem uq_quo : ∀ {r : List UInt8}, r ≠ [] → Ctl.uq (34 :: r) = none
  | [], h => absurd rfl h
  | [d], _ => by rw [Ctl.uq, if_pos rfl]
  | d :: e :: r, _ => by rw [Ctl.uq, if_pos rfl]
theorem uq_txt {c : UInt8} (h1 : c ≠ 34) (h2 : c ≠ 92) : ∀ r : List UInt8, Ctl.uq (c :: r) = if Ctl.txt c = true then (Ctl.uq r).map (c :: ·) else none
  | [] => by simp [Ctl.uq, h1]
  | [d] => by
    simp only [Ctl.uq, if_neg h1, if_neg h2]
    by_cases hd : d = 34 <;> by_cases hc : Ctl.txt c = true <;> simp [hd, hc]
  | d :: e :: r => by rw [Ctl.uq, if_neg h1, if_neg h2]
def unqV (o : Option (List UInt8)) : Value := .tuple #[.string (bs (o.getD [])), .int .i64 (if o.isSome = true then 0 else 11)]
theorem unq_pre {s : List UInt8} (h : preB [34] s = true) : ∃ t, s = 34 :: t ∧ cutP [34] s = t := by
  cases s with
  | nil => exact absurd h (by decide)
  | cons c t =>
    have hc : c = 34 := by unfold preB at h; simpa using h
    subst hc
    refine ⟨t, rfl, ?_⟩
    unfold cutP
    rw [if_pos h]; rfl
theorem unq_nopre {s : List UInt8} (h : preB [34] s = false) : Ctl.unq s = none := by
  unfold Ctl.unq
  split
  · unfold preB at h; simp at h
  · rfl
set_option maxHeartbeats 8000000 in
theorem unquote_any (s : List UInt8) (w : World) (hs : s.length ≤ 1073741824) :
    Calls Tryd.prog 42 #[.string (bs s)] w fun e w' => e = .returned (unqV (Ctl.unq s)) ∧ Below w.heap.size w w' := by
  have hC := cutPrefix_any s [34] w (by omega) (by simp)
  have HNo : Hid (∀ U : Option (List UInt8), U = none → unqV U = .tuple #[.string (bs []), .int .i64 11]) := Lib.hid fun U h => by rw [h]; rfl
  have HYe : Hid (∀ (U : Option (List UInt8)) r, U = some r → unqV U = .tuple #[.string (bs r), .int .i64 0]) := Lib.hid fun U r h => by rw [h]; rfl
  have hib : IB (w.alloc (.cells #[.pointer none, .slice none 0 0] 82)) w.heap.size w.heap.size [] := Lib.fresh_isBuilder _ _ w
  have hal := alloc_below w (.cells #[.pointer none, .slice none 0 0] 82)
  cases hp : preB [34] s with
  | false =>
    have HF := Lib.hid (HNo.out _ (unq_nopre hp))
    have hcp : cutP [34] s = s := by unfold cutP; rw [if_neg (by rw [hp]; simp)]
    rw [hcp, hp] at hC
    generalize Ctl.unq s = U at *
    clear hp hcp HNo HYe hib
    go_enter Tryd.func42, Tryd.ntmps42
    go_wp2_with fail
    refine hC.mono ?_
    rintro e w1 ⟨rfl, rfl⟩
    clear hC
    go_upto_region 4 with fail
    generalize w.alloc (.cells #[.pointer none, .slice none 0 0] 82) = w1 at *
    go_loopg [6] 0 (fun q iv wr => wr = w1)
    case atStart => exact rfl
    case round =>
      obtain rfl := hrel
      go_wp2
      go_ret2
      exact ⟨ret_v HF.out.symm, hal⟩
  | true =>
    obtain ⟨t, rfl, hcp⟩ := unq_pre hp
    rw [hcp, hp] at hC
    have htl : t.length + 1 ≤ 1073741824 := hs
    have hU : Ctl.unq (34 :: t) = Ctl.uq t := rfl
    rw [hU]
    obtain ⟨U, hUe⟩ : ∃ U, U = Ctl.uq t := ⟨_, rfl⟩
    have H0 : Hid ((Ctl.uq (t.drop 0)).map (([] : List UInt8) ++ ·) = U) := Lib.hid (by rw [hUe, List.drop_zero]; cases Ctl.uq t <;> rfl)
    rw [← hUe]
    clear hUe hU hp hcp hs
    go_enter Tryd.func42, Tryd.ntmps42
    go_wp2_with fail
    refine hC.mono ?_
    rintro e w1 ⟨rfl, rfl⟩
    clear hC
    go_upto_region 4 with fail
    generalize w.alloc (.cells #[.pointer none, .slice none 0 0] 82) = w1 at *
    go_loopg [6] t.length (fun q iv wr => ∃ (i : Nat) (acc : List UInt8), i ≤ t.length ∧ q + i = t.length ∧ iv = .int .i64 (i : Int) ∧ IB wr w.heap.size w.heap.size acc ∧ acc.length ≤ i ∧ Hid ((Ctl.uq (t.drop i)).map (acc ++ ·) = U) ∧ Below w.heap.size w wr)
    case atStart => exact ⟨0, [], by omega, by omega, rfl, hib, by simp, H0, hal⟩
    case round =>
      clear hib hal H0
      obtain ⟨i, acc, hi, hq, rfl, hib, hacl, HU, hbr⟩ := hrel
      obtain ⟨wo, rfl⟩ : ∃ wo, wo = wr := ⟨_, rfl⟩
      by_cases hlt : i < t.length
      · have hdr : t.drop i = t[i] :: t.drop (i + 1) := List.drop_eq_getElem_cons hlt
        have hc255 := t[i].toNat_lt
        have hU1 := HU.out
        rw [hdr] at hU1
        clear hdr HU
        by_cases h34 : t[i] = 34
        · have e34 := u8eqk h34 34 rfl
          rw [h34] at hU1
          by_cases hl1 : i + 1 = t.length
          · have hlast : ((i : Int) == (t.length : Int) - 1) = true := by rw [beq_iff_eq]; omega
            have HF := Lib.hid (HYe.out U acc (by rw [← hU1, List.drop_eq_nil_of_le (by omega), show Ctl.uq [34] = some [] from rfl]; simp))
            clear hU1 h34 HNo HYe hl1
            go_wp2_with fail
            refine (str_any _ _ acc _ hib hbr.size).mono ?_
            rintro e w4 ⟨rfl, hb4⟩
            go_wp2
            go_ret2
            exact ⟨ret_v HF.out.symm, hbr.trans hb4⟩
          · have hlast : ((i : Int) == (t.length : Int) - 1) = false := by rw [beq_eq_false_iff_ne]; omega
            have HF := Lib.hid (HNo.out U (by rw [← hU1, uq_quo (by intro h; have := congrArg List.length h; simp at this; omega)]; rfl))
            clear hU1 h34 HNo HYe hl1
            go_wp2
            go_ret2
            exact ⟨ret_v HF.out.symm, hbr⟩
        · have e34 := u8nek h34 34 rfl
          by_cases h92 : t[i] = 92
          · have e92 := u8eqk h92 92 rfl
            rw [h92] at hU1
            by_cases hsh : t.length ≤ i + 2
            · have HF := Lib.hid (HNo.out U (by rw [← hU1, uq_esc2 (by simp; omega)]; rfl))
              clear hU1 h34 h92 HNo HYe
              by_cases hl1 : i + 2 = t.length
              · have hlast : ((i : Int) + 1 == (t.length : Int) - 1) = true := by rw [beq_iff_eq]; omega
                go_wp2
                go_ret2
                exact ⟨ret_v HF.out.symm, hbr⟩
              · have hlast : ((i : Int) + 1 == (t.length : Int) - 1) = false := by rw [beq_eq_false_iff_ne]; omega
                have hlast2 : ((i : Int) + 1 == (t.length : Int)) = true := by rw [beq_iff_eq]; omega
                go_wp2
                go_ret2
                exact ⟨ret_v HF.out.symm, hbr⟩
            · have hi1 : i + 1 < t.length := by omega
              have hi2 : i + 2 < t.length := by omega
              rw [List.drop_eq_getElem_cons hi1, List.drop_eq_getElem_cons hi2, uq_esc, ← List.drop_eq_getElem_cons hi2] at hU1
              have hlast : ((i : Int) + 1 == (t.length : Int) - 1) = false := by rw [beq_eq_false_iff_ne]; omega
              have hlast2 : ((i : Int) + 1 == (t.length : Int)) = false := by rw [beq_eq_false_iff_ne]; omega
              have HTx := Lib.hid fun W => textByte_any t[i + 1] W
              clear h34 h92
              cases hx : Ctl.txt t[i + 1] with
              | false =>
                rw [hx, if_neg (by simp)] at hU1
                rw [hx] at HTx
                have HF := Lib.hid (HNo.out U (by rw [← hU1]; rfl))
                clear hU1 HNo HYe hx
                go_wp2_with fail
                refine (HTx.out _).mono ?_
                rintro e w4 ⟨rfl, rfl⟩
                go_wp2
                go_ret2
                exact ⟨ret_v HF.out.symm, hbr⟩
              | true =>
                rw [hx, if_pos rfl] at hU1
                rw [hx] at HTx
                have HN : Hid ((Ctl.uq (t.drop (i + 2))).map ((acc ++ [t[i + 1]]) ++ ·) = U) := Lib.hid (by rw [← hU1]; cases Ctl.uq (t.drop (i + 2)) <;> simp)
                clear hU1 HNo HYe hx
                go_wp2_with fail
                refine (HTx.out _).mono ?_
                rintro e w4 ⟨rfl, rfl⟩
                go_wp2_with fail
                refine (wb_any _ _ acc t[i + 1] _ hib (by omega) hbr.size).mono ?_
                rintro e w6 ⟨rfl, hub6, hb6⟩
                have hB6 := hbr.trans hb6
                clear hib hbr hb6
                go_wp2
                go_roundg (t.length - (i + 2))
                case measure => omega
                case rel => exact ⟨i + 2, acc ++ [t[i + 1]], by omega, by omega, by go_num, .inr hub6, by simp; omega, HN, hB6⟩
          · have e92 := u8nek h92 92 rfl
            rw [uq_txt h34 h92] at hU1
            have HTx := Lib.hid fun W => textByte_any t[i] W
            clear h34 h92
            cases hx : Ctl.txt t[i] with
            | false =>
              rw [hx, if_neg (by simp)] at hU1
              rw [hx] at HTx
              have HF := Lib.hid (HNo.out U (by rw [← hU1]; rfl))
              clear hU1 HNo HYe hx
              go_wp2_with fail
              refine (HTx.out _).mono ?_
              rintro e w4 ⟨rfl, rfl⟩
              go_wp2
              go_ret2
              exact ⟨ret_v HF.out.symm, hbr⟩
            | true =>
              rw [hx, if_pos rfl] at hU1
              rw [hx] at HTx
              have HN : Hid ((Ctl.uq (t.drop (i + 1))).map ((acc ++ [t[i]]) ++ ·) = U) := Lib.hid (by rw [← hU1]; cases Ctl.uq (t.drop (i + 1)) <;> simp)
              clear hU1 HNo HYe hx
              go_wp2_with fail
              refine (HTx.out _).mono ?_
              rintro e w4 ⟨rfl, rfl⟩
              go_wp2_with fail
              refine (wb_any _ _ acc t[i] _ hib (by omega) hbr.size).mono ?_
              rintro e w6 ⟨rfl, hub6, hb6⟩
              have hB6 := hbr.trans hb6
              clear hib hbr hb6
              go_wp2
              go_roundg (t.length - (i + 1))
              case measure => omega
              case rel => exact ⟨i + 1, acc ++ [t[i]], by omega, by omega, by go_num, .inr hub6, by simp; omega, HN, hB6⟩
      · have hU1 := HU.out
        rw [List.drop_eq_nil_of_le (by omega)] at hU1
        have HF := Lib.hid (HNo.out U (by rw [← hU1]; rfl))
        clear hU1 HU HNo HYe
        go_wp2
        go_ret2
        exact ⟨ret_v HF.out.symm, hbr⟩
end Go.Proofs.YtfhkgbimnfjfhaaDoor
