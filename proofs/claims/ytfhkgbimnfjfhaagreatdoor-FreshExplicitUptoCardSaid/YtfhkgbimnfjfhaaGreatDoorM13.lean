/- Joined texts: The library's HasPrefix, HasSuffix, CutPrefix, CutSuffix, walked; Unquote, the program's and the reference's; (every seat) The library's variable MaxLen holds some int; strings.Cut at one byte. The conditions stand in each line. -/
import Derived.Test.YtfhkgbimnfjfhaaGreatDoorChecked
import Derived.Test.YtfhkgbimnfjfhaaGreatDoorM3
import Derived.Test.YtfhkgbimnfjfhaaGreatDoorM4
import Derived.Test.YtfhkgbimnfjfhaaGreatDoorM6
import Derived.Test.YtfhkgbimnfjfhaaGreatDoorM7
import Derived.Test.YtfhkgbimnfjfhaaGreatDoorM8
import Derived.Test.YtfhkgbimnfjfhaaGreatDoorM9
import Derived.Test.YtfhkgbimnfjfhaaGreatDoorM11
import Derived.Test.YtfhkgbimnfjfhaaGreatDoorM12
import Derived.Deep.LoopGhost
import Derived.Deep.Cut
import Derived.Deep.DeepCutAuto
import Derived.Shelf.Vars
set_option linter.unusedVariables false
set_option linter.unusedSimpArgs false
namespace Go.Proofs.YtfhkgbimnfjfhaaGreatDoor
open Go.RowKit

theorem pre_short {p s : List UInt8} (h : ¬ p.length ≤ s.length) : preB p s = false := by
  rw [Bool.eq_false_iff]; intro hp; exact h (preB_len hp)
theorem suf_short {p s : List UInt8} (h : ¬ p.length ≤ s.length) : sufB p s = false := by
  rw [Bool.eq_false_iff]; intro hp; exact h (sufB_len hp)
set_option maxHeartbeats 400000 in
theorem hasPrefix_any (s p : List UInt8) (w : World) (hs : s.length ≤ 140737488355328) (hp : p.length ≤ 140737488355328) :
    Calls Tryz.prog 100 #[.string (bs s), .string (bs p)] w fun e w' => e = .returned (.bool (preB p s)) ∧ w = w' := by
  go_enter Tryz.func100, Tryz.ntmps100
  go_wp2
  · go_ret
    exact ⟨ret_bool rfl, rfl⟩
  · go_ret
    exact ⟨ret_bool (pre_short ‹_›).symm, rfl⟩

set_option maxHeartbeats 400000 in
theorem lcutPrefix_any (s p : List UInt8) (w : World) (hs : s.length ≤ 140737488355328) (hp : p.length ≤ 140737488355328) :
    Calls Tryz.prog 123 #[.string (bs s), .string (bs p)] w fun e w' => e = .returned (.tuple #[.string (bs (cutP p s)), .bool (preB p s)]) ∧ w = w' := by
  have hl := @preB_len p s
  unfold cutP
  by_cases h : preB p s = true
  · have hl' := hl h
    rw [if_pos h]
    go_enter Tryz.func123, Tryz.ntmps123
    go_wp2_with (go_at_call 100; refine (hasPrefix_any _ _ _ hs hp).mono ?_; rintro e w' ⟨rfl, rfl⟩)
    go_ret2
    exact ⟨by simp [h], rfl⟩
  · have h' : preB p s = false := by simpa using h
    rw [if_neg h]
    go_enter Tryz.func123, Tryz.ntmps123
    go_wp2_with (go_at_call 100; refine (hasPrefix_any _ _ _ hs hp).mono ?_; rintro e w' ⟨rfl, rfl⟩)
    go_ret2
    exact ⟨by simp [h'], rfl⟩
set_option maxHeartbeats 400000 in
theorem cutPrefix_any (s p : List UInt8) (w : World) (hs : s.length ≤ 140737488355328) (hp : p.length ≤ 140737488355328) :
    Calls Tryz.prog 101 #[.string (bs s), .string (bs p)] w fun e w' => e = .returned (.tuple #[.string (bs (cutP p s)), .bool (preB p s)]) ∧ w = w' := by
  go_enter Tryz.func101, Tryz.ntmps101
  go_wp2_with (go_at_call 123; refine (lcutPrefix_any _ _ _ hs hp).mono ?_; rintro e w' ⟨rfl, rfl⟩)
  go_ret2
  exact ⟨rfl, rfl⟩
set_option maxHeartbeats 400000 in
theorem shasPrefix_any (s p : List UInt8) (w : World) (hs : s.length ≤ 140737488355328) (hp : p.length ≤ 140737488355328) :
    Calls Tryz.prog 64 #[.string (bs s), .string (bs p)] w fun e w' => e = .returned (.bool (preB p s)) ∧ w = w' := by
  go_enter Tryz.func64, Tryz.ntmps64
  go_wp2_with (go_at_call 100; refine (hasPrefix_any _ _ _ hs hp).mono ?_; rintro e w' ⟨rfl, rfl⟩)
  go_ret
  exact ⟨rfl, rfl⟩

end Go.Proofs.YtfhkgbimnfjfhaaGreatDoor
set_option linter.unusedVariables false
set_option linter.unusedSimpArgs false
namespace Go.Proofs.YtfhkgbimnfjfhaaGreatDoor
open Go.RowKit

set_option maxRecDepth 100000
theorem txt_tab : ∀ n : Fin 256, Ctl.txt (UInt8.ofNat n.val) = (decide ((UInt8.ofNat n.val).toNat = 9) || (decide (32 ≤ (UInt8.ofNat n.val).toNat) && !decide ((UInt8.ofNat n.val).toNat = 127))) := by decide +kernel
theorem txt_nat (c : UInt8) : Ctl.txt c = (decide (c.toNat = 9) || (decide (32 ≤ c.toNat) && !decide (c.toNat = 127))) := by
  obtain ⟨n, rfl⟩ := u8_all c
  exact txt_tab n
set_option maxHeartbeats 2000000 in
theorem textByte_any (c : UInt8) (w : World) : Calls Tryz.prog 102 #[.int .u8 c.toNat] w fun e w' => e = .returned (.bool (Ctl.txt c)) ∧ w = w' := by
  have HV := Lib.hid (txt_nat c)
  generalize Ctl.txt c = V at *
  have h255 := c.toNat_lt
  have hr : (c.toNat < 9) ∨ (c.toNat = 9) ∨ (10 ≤ c.toNat ∧ c.toNat ≤ 31) ∨ (32 ≤ c.toNat ∧ c.toNat ≤ 126) ∨ (c.toNat = 127) ∨ (128 ≤ c.toNat) := by omega
  rcases hr with h | h | h | h | h | h
  · have HW : Hid (V = false) := Lib.hid (by rw [HV.out]; simp; omega)
    have a0 : ¬ 32 ≤ c.toNat := by omega
    have e9 : ((c.toNat : Int) == 9) = false := by rw [beq_eq_false_iff_ne]; omega
    have e127 : ((c.toNat : Int) == 127) = false := by rw [beq_eq_false_iff_ne]; omega
    have n127 : ((c.toNat : Int) != 127) = true := by rw [bne, e127]; rfl
    clear HV h h255
    go_enter Tryz.func102, Tryz.ntmps102
    go_wp2
    all_goals
      go_ret
      exact ⟨ret_bool (by first | (rw [HW.out]; done) | (rw [HW.out]; simp; done) | (rw [HW.out]; simp; omega)), rfl⟩
  · have HW : Hid (V = true) := Lib.hid (by rw [HV.out]; simp; omega)
    have a0 : ¬ 32 ≤ c.toNat := by omega
    have e9 : ((c.toNat : Int) == 9) = true := by rw [beq_iff_eq]; omega
    have e127 : ((c.toNat : Int) == 127) = false := by rw [beq_eq_false_iff_ne]; omega
    have n127 : ((c.toNat : Int) != 127) = true := by rw [bne, e127]; rfl
    clear HV h h255
    go_enter Tryz.func102, Tryz.ntmps102
    go_wp2
    all_goals
      go_ret
      exact ⟨ret_bool (by first | (rw [HW.out]; done) | (rw [HW.out]; simp; done) | (rw [HW.out]; simp; omega)), rfl⟩
  · have HW : Hid (V = false) := Lib.hid (by rw [HV.out]; simp; omega)
    have a0 : ¬ 32 ≤ c.toNat := by omega
    have e9 : ((c.toNat : Int) == 9) = false := by rw [beq_eq_false_iff_ne]; omega
    have e127 : ((c.toNat : Int) == 127) = false := by rw [beq_eq_false_iff_ne]; omega
    have n127 : ((c.toNat : Int) != 127) = true := by rw [bne, e127]; rfl
    clear HV h h255
    go_enter Tryz.func102, Tryz.ntmps102
    go_wp2
    all_goals
      go_ret
      exact ⟨ret_bool (by first | (rw [HW.out]; done) | (rw [HW.out]; simp; done) | (rw [HW.out]; simp; omega)), rfl⟩
  · have HW : Hid (V = true) := Lib.hid (by rw [HV.out]; simp; omega)
    have a0 : 32 ≤ c.toNat := by omega
    have e9 : ((c.toNat : Int) == 9) = false := by rw [beq_eq_false_iff_ne]; omega
    have e127 : ((c.toNat : Int) == 127) = false := by rw [beq_eq_false_iff_ne]; omega
    have n127 : ((c.toNat : Int) != 127) = true := by rw [bne, e127]; rfl
    clear HV h h255
    go_enter Tryz.func102, Tryz.ntmps102
    go_wp2
    all_goals
      go_ret
      exact ⟨ret_bool (by first | (rw [HW.out]; done) | (rw [HW.out]; simp; done) | (rw [HW.out]; simp; omega)), rfl⟩
  · have HW : Hid (V = false) := Lib.hid (by rw [HV.out]; simp; omega)
    have a0 : 32 ≤ c.toNat := by omega
    have e9 : ((c.toNat : Int) == 9) = false := by rw [beq_eq_false_iff_ne]; omega
    have e127 : ((c.toNat : Int) == 127) = true := by rw [beq_iff_eq]; omega
    have n127 : ((c.toNat : Int) != 127) = false := by rw [bne, e127]; rfl
    clear HV h h255
    go_enter Tryz.func102, Tryz.ntmps102
    go_wp2
    all_goals
      go_ret
      exact ⟨ret_bool (by first | (rw [HW.out]; done) | (rw [HW.out]; simp; done) | (rw [HW.out]; simp; omega)), rfl⟩
  · have HW : Hid (V = true) := Lib.hid (by rw [HV.out]; simp; omega)
    have a0 : 32 ≤ c.toNat := by omega
    have e9 : ((c.toNat : Int) == 9) = false := by rw [beq_eq_false_iff_ne]; omega
    have e127 : ((c.toNat : Int) == 127) = false := by rw [beq_eq_false_iff_ne]; omega
    have n127 : ((c.toNat : Int) != 127) = true := by rw [bne, e127]; rfl
    clear HV h h255
    go_enter Tryz.func102, Tryz.ntmps102
    go_wp2
    all_goals
      go_ret
      exact ⟨ret_bool (by first | (rw [HW.out]; done) | (rw [HW.out]; simp; done) | (rw [HW.out]; simp; omega)), rfl⟩
set_option maxHeartbeats 2000000 in
theorem textR_any (c : UInt8) (w : World) : Calls Tryz.prog 114 #[.int .u8 c.toNat] w fun e w' => e = .returned (.bool (Ctl.txt c)) ∧ w = w' := by
  have HV := Lib.hid (txt_nat c)
  generalize Ctl.txt c = V at *
  have h255 := c.toNat_lt
  have hr : (c.toNat < 9) ∨ (c.toNat = 9) ∨ (10 ≤ c.toNat ∧ c.toNat ≤ 31) ∨ (32 ≤ c.toNat ∧ c.toNat ≤ 126) ∨ (c.toNat = 127) ∨ (128 ≤ c.toNat) := by omega
  rcases hr with h | h | h | h | h | h
  · have HW : Hid (V = false) := Lib.hid (by rw [HV.out]; simp; omega)
    have a0 : ¬ 32 ≤ c.toNat := by omega
    have e9 : ((c.toNat : Int) == 9) = false := by rw [beq_eq_false_iff_ne]; omega
    have e127 : ((c.toNat : Int) == 127) = false := by rw [beq_eq_false_iff_ne]; omega
    have n127 : ((c.toNat : Int) != 127) = true := by rw [bne, e127]; rfl
    clear HV h h255
    go_enter Tryz.func114, Tryz.ntmps114
    go_wp2
    all_goals
      go_ret
      exact ⟨ret_bool (by first | (rw [HW.out]; done) | (rw [HW.out]; simp; done) | (rw [HW.out]; simp; omega)), rfl⟩
  · have HW : Hid (V = true) := Lib.hid (by rw [HV.out]; simp; omega)
    have a0 : ¬ 32 ≤ c.toNat := by omega
    have e9 : ((c.toNat : Int) == 9) = true := by rw [beq_iff_eq]; omega
    have e127 : ((c.toNat : Int) == 127) = false := by rw [beq_eq_false_iff_ne]; omega
    have n127 : ((c.toNat : Int) != 127) = true := by rw [bne, e127]; rfl
    clear HV h h255
    go_enter Tryz.func114, Tryz.ntmps114
    go_wp2
    all_goals
      go_ret
      exact ⟨ret_bool (by first | (rw [HW.out]; done) | (rw [HW.out]; simp; done) | (rw [HW.out]; simp; omega)), rfl⟩
  · have HW : Hid (V = false) := Lib.hid (by rw [HV.out]; simp; omega)
    have a0 : ¬ 32 ≤ c.toNat := by omega
    have e9 : ((c.toNat : Int) == 9) = false := by rw [beq_eq_false_iff_ne]; omega
    have e127 : ((c.toNat : Int) == 127) = false := by rw [beq_eq_false_iff_ne]; omega
    have n127 : ((c.toNat : Int) != 127) = true := by rw [bne, e127]; rfl
    clear HV h h255
    go_enter Tryz.func114, Tryz.ntmps114
    go_wp2
    all_goals
      go_ret
      exact ⟨ret_bool (by first | (rw [HW.out]; done) | (rw [HW.out]; simp; done) | (rw [HW.out]; simp; omega)), rfl⟩
  · have HW : Hid (V = true) := Lib.hid (by rw [HV.out]; simp; omega)
    have a0 : 32 ≤ c.toNat := by omega
    have e9 : ((c.toNat : Int) == 9) = false := by rw [beq_eq_false_iff_ne]; omega
    have e127 : ((c.toNat : Int) == 127) = false := by rw [beq_eq_false_iff_ne]; omega
    have n127 : ((c.toNat : Int) != 127) = true := by rw [bne, e127]; rfl
    clear HV h h255
    go_enter Tryz.func114, Tryz.ntmps114
    go_wp2
    all_goals
      go_ret
      exact ⟨ret_bool (by first | (rw [HW.out]; done) | (rw [HW.out]; simp; done) | (rw [HW.out]; simp; omega)), rfl⟩
  · have HW : Hid (V = false) := Lib.hid (by rw [HV.out]; simp; omega)
    have a0 : 32 ≤ c.toNat := by omega
    have e9 : ((c.toNat : Int) == 9) = false := by rw [beq_eq_false_iff_ne]; omega
    have e127 : ((c.toNat : Int) == 127) = true := by rw [beq_iff_eq]; omega
    have n127 : ((c.toNat : Int) != 127) = false := by rw [bne, e127]; rfl
    clear HV h h255
    go_enter Tryz.func114, Tryz.ntmps114
    go_wp2
    all_goals
      go_ret
      exact ⟨ret_bool (by first | (rw [HW.out]; done) | (rw [HW.out]; simp; done) | (rw [HW.out]; simp; omega)), rfl⟩
  · have HW : Hid (V = true) := Lib.hid (by rw [HV.out]; simp; omega)
    have a0 : 32 ≤ c.toNat := by omega
    have e9 : ((c.toNat : Int) == 9) = false := by rw [beq_eq_false_iff_ne]; omega
    have e127 : ((c.toNat : Int) == 127) = false := by rw [beq_eq_false_iff_ne]; omega
    have n127 : ((c.toNat : Int) != 127) = true := by rw [bne, e127]; rfl
    clear HV h h255
    go_enter Tryz.func114, Tryz.ntmps114
    go_wp2
    all_goals
      go_ret
      exact ⟨ret_bool (by first | (rw [HW.out]; done) | (rw [HW.out]; simp; done) | (rw [HW.out]; simp; omega)), rfl⟩
theorem uq_esc {d e : UInt8} {r : List UInt8} : Ctl.uq (92 :: d :: e :: r) = if Ctl.txt d = true then (Ctl.uq (e :: r)).map (d :: ·) else none := by
  rw [Ctl.uq, if_neg (by decide), if_pos rfl]
theorem uq_esc2 : ∀ {r : List UInt8}, r.length < 2 → Ctl.uq (92 :: r) = none
  | [], _ => rfl
  | [d], _ => by rw [Ctl.uq, if_neg (by decide), if_pos rfl]
  | _ :: _ :: _, h => by simp at h; omega
theorem uq_quo : ∀ {r : List UInt8}, r ≠ [] → Ctl.uq (34 :: r) = none
  | [], h => absurd rfl h
  | [d], _ => by rw [Ctl.uq, if_pos rfl]
  | d :: e :: r, _ => by rw [Ctl.uq, if_pos rfl]
theorem uq_txt {c : UInt8} (h1 : c ≠ 34) (h2 : c ≠ 92) : ∀ r : List UInt8, Ctl.uq (c :: r) = if Ctl.txt c = true then (Ctl.uq r).map (c :: ·) else none
  | [] => by simp [Ctl.uq, h1]
  | [d] => by
    simp only [Ctl.uq, if_neg h1, if_neg h2]
    by_cases hd : d = 34 <;> by_cases hc : Ctl.txt c = true <;> simp [hd, hc]
  | d :: e :: r => by rw [Ctl.uq, if_neg h1, if_neg h2]
def unqV (o : Option (List UInt8)) : Value := .tuple #[.string (bs (o.getD [])), .int .i64 (if o.isSome = true then 0 else 11)]
theorem unq_pre {s : List UInt8} (h : preB [34] s = true) : ∃ t, s = 34 :: t ∧ cutP [34] s = t := by
  cases s with
  | nil => exact absurd h (by decide)
  | cons c t =>
    have hc : c = 34 := by unfold preB at h; simpa using h
    subst hc
    refine ⟨t, rfl, ?_⟩
    unfold cutP
    rw [if_pos h]; rfl
theorem unq_nopre {s : List UInt8} (h : preB [34] s = false) : Ctl.unq s = none := by
  unfold Ctl.unq
  split
  · unfold preB at h; simp at h
  · rfl
set_option maxHeartbeats 8000000 in
theorem unquote_any (s : List UInt8) (w : World) (hs : s.length ≤ 1073741824) :
    Calls Tryz.prog 65 #[.string (bs s)] w fun e w' => e = .returned (unqV (Ctl.unq s)) ∧ Below w.heap.size w w' := by
  have hC := cutPrefix_any s [34] w (by omega) (by simp)
  have HNo : Hid (∀ U : Option (List UInt8), U = none → unqV U = .tuple #[.string (bs []), .int .i64 11]) := Lib.hid fun U h => by rw [h]; rfl
  have HYe : Hid (∀ (U : Option (List UInt8)) r, U = some r → unqV U = .tuple #[.string (bs r), .int .i64 0]) := Lib.hid fun U r h => by rw [h]; rfl
  have hib : IB (w.alloc (.cells #[.pointer none, .slice none 0 0] 119)) w.heap.size w.heap.size [] := Lib.fresh_isBuilder _ _ w
  have hal := alloc_below w (.cells #[.pointer none, .slice none 0 0] 119)
  cases hp : preB [34] s with
  | false =>
    have HF := Lib.hid (HNo.out _ (unq_nopre hp))
    have hcp : cutP [34] s = s := by unfold cutP; rw [if_neg (by rw [hp]; simp)]
    rw [hcp, hp] at hC
    generalize Ctl.unq s = U at *
    clear hp hcp HNo HYe hib
    go_enter Tryz.func65, Tryz.ntmps65
    go_wp2_with fail
    refine hC.mono ?_
    rintro e w1 ⟨rfl, rfl⟩
    clear hC
    go_upto_region 4 with fail
    generalize w.alloc (.cells #[.pointer none, .slice none 0 0] 119) = w1 at *
    go_loopg [6] 0 (fun q iv wr => wr = w1)
    case atStart => exact rfl
    case round =>
      obtain rfl := hrel
      go_wp2
      go_ret2
      exact ⟨ret_v HF.out.symm, hal⟩
  | true =>
    obtain ⟨t, rfl, hcp⟩ := unq_pre hp
    rw [hcp, hp] at hC
    have htl : t.length + 1 ≤ 1073741824 := hs
    have hU : Ctl.unq (34 :: t) = Ctl.uq t := rfl
    rw [hU]
    obtain ⟨U, hUe⟩ : ∃ U, U = Ctl.uq t := ⟨_, rfl⟩
    have H0 : Hid ((Ctl.uq (t.drop 0)).map (([] : List UInt8) ++ ·) = U) := Lib.hid (by rw [hUe, List.drop_zero]; cases Ctl.uq t <;> rfl)
    rw [← hUe]
    clear hUe hU hp hcp hs
    go_enter Tryz.func65, Tryz.ntmps65
    go_wp2_with fail
    refine hC.mono ?_
    rintro e w1 ⟨rfl, rfl⟩
    clear hC
    go_upto_region 4 with fail
    generalize w.alloc (.cells #[.pointer none, .slice none 0 0] 119) = w1 at *
    go_loopg [6] t.length (fun q iv wr => ∃ (i : Nat) (acc : List UInt8), i ≤ t.length ∧ q + i = t.length ∧ iv = .int .i64 (i : Int) ∧ IB wr w.heap.size w.heap.size acc ∧ acc.length ≤ i ∧ Hid ((Ctl.uq (t.drop i)).map (acc ++ ·) = U) ∧ Below w.heap.size w wr)
    case atStart => exact ⟨0, [], by omega, by omega, rfl, hib, by simp, H0, hal⟩
    case round =>
      clear hib hal H0
      obtain ⟨i, acc, hi, hq, rfl, hib, hacl, HU, hbr⟩ := hrel
      obtain ⟨wo, rfl⟩ : ∃ wo, wo = wr := ⟨_, rfl⟩
      by_cases hlt : i < t.length
      · have hdr : t.drop i = t[i] :: t.drop (i + 1) := List.drop_eq_getElem_cons hlt
        have hc255 := t[i].toNat_lt
        have hU1 := HU.out
        rw [hdr] at hU1
        clear hdr HU
        by_cases h34 : t[i] = 34
        · have e34 := u8eqk h34 34 rfl
          rw [h34] at hU1
          by_cases hl1 : i + 1 = t.length
          · have hlast : ((i : Int) == (t.length : Int) - 1) = true := by rw [beq_iff_eq]; omega
            have HF := Lib.hid (HYe.out U acc (by rw [← hU1, List.drop_eq_nil_of_le (by omega), show Ctl.uq [34] = some [] from rfl]; simp))
            clear hU1 h34 HNo HYe hl1
            go_wp2_with fail
            refine (str_any _ _ acc _ hib hbr.size).mono ?_
            rintro e w4 ⟨rfl, hb4⟩
            go_wp2
            go_ret2
            exact ⟨ret_v HF.out.symm, hbr.trans hb4⟩
          · have hlast : ((i : Int) == (t.length : Int) - 1) = false := by rw [beq_eq_false_iff_ne]; omega
            have HF := Lib.hid (HNo.out U (by rw [← hU1, uq_quo (by intro h; have := congrArg List.length h; simp at this; omega)]; rfl))
            clear hU1 h34 HNo HYe hl1
            go_wp2
            go_ret2
            exact ⟨ret_v HF.out.symm, hbr⟩
        · have e34 := u8nek h34 34 rfl
          by_cases h92 : t[i] = 92
          · have e92 := u8eqk h92 92 rfl
            rw [h92] at hU1
            by_cases hsh : t.length ≤ i + 2
            · have HF := Lib.hid (HNo.out U (by rw [← hU1, uq_esc2 (by simp; omega)]; rfl))
              clear hU1 h34 h92 HNo HYe
              by_cases hl1 : i + 2 = t.length
              · have hlast : ((i : Int) + 1 == (t.length : Int) - 1) = true := by rw [beq_iff_eq]; omega
                go_wp2
                go_ret2
                exact ⟨ret_v HF.out.symm, hbr⟩
              · have hlast : ((i : Int) + 1 == (t.length : Int) - 1) = false := by rw [beq_eq_false_iff_ne]; omega
                have hlast2 : ((i : Int) + 1 == (t.length : Int)) = true := by rw [beq_iff_eq]; omega
                go_wp2
                go_ret2
                exact ⟨ret_v HF.out.symm, hbr⟩
            · have hi1 : i + 1 < t.length := by omega
              have hi2 : i + 2 < t.length := by omega
              rw [List.drop_eq_getElem_cons hi1, List.drop_eq_getElem_cons hi2, uq_esc, ← List.drop_eq_getElem_cons hi2] at hU1
              have hlast : ((i : Int) + 1 == (t.length : Int) - 1) = false := by rw [beq_eq_false_iff_ne]; omega
              have hlast2 : ((i : Int) + 1 == (t.length : Int)) = false := by rw [beq_eq_false_iff_ne]; omega
              have HTx := Lib.hid fun W => textByte_any t[i + 1] W
              clear h34 h92
              cases hx : Ctl.txt t[i + 1] with
              | false =>
                rw [hx, if_neg (by simp)] at hU1
                rw [hx] at HTx
                have HF := Lib.hid (HNo.out U (by rw [← hU1]; rfl))
                clear hU1 HNo HYe hx
                go_wp2_with fail
                refine (HTx.out _).mono ?_
                rintro e w4 ⟨rfl, rfl⟩
                go_wp2
                go_ret2
                exact ⟨ret_v HF.out.symm, hbr⟩
              | true =>
                rw [hx, if_pos rfl] at hU1
                rw [hx] at HTx
                have HN : Hid ((Ctl.uq (t.drop (i + 2))).map ((acc ++ [t[i + 1]]) ++ ·) = U) := Lib.hid (by rw [← hU1]; cases Ctl.uq (t.drop (i + 2)) <;> simp)
                clear hU1 HNo HYe hx
                go_wp2_with fail
                refine (HTx.out _).mono ?_
                rintro e w4 ⟨rfl, rfl⟩
                go_wp2_with fail
                refine (wb_any _ _ acc t[i + 1] _ hib (by omega) hbr.size).mono ?_
                rintro e w6 ⟨rfl, hub6, hb6⟩
                have hB6 := hbr.trans hb6
                clear hib hbr hb6
                go_wp2
                go_roundg (t.length - (i + 2))
                case measure => omega
                case rel => exact ⟨i + 2, acc ++ [t[i + 1]], by omega, by omega, by go_num, .inr hub6, by simp; omega, HN, hB6⟩
          · have e92 := u8nek h92 92 rfl
            rw [uq_txt h34 h92] at hU1
            have HTx := Lib.hid fun W => textByte_any t[i] W
            clear h34 h92
            cases hx : Ctl.txt t[i] with
            | false =>
              rw [hx, if_neg (by simp)] at hU1
              rw [hx] at HTx
              have HF := Lib.hid (HNo.out U (by rw [← hU1]; rfl))
              clear hU1 HNo HYe hx
              go_wp2_with fail
              refine (HTx.out _).mono ?_
              rintro e w4 ⟨rfl, rfl⟩
              go_wp2
              go_ret2
              exact ⟨ret_v HF.out.symm, hbr⟩
            | true =>
              rw [hx, if_pos rfl] at hU1
              rw [hx] at HTx
              have HN : Hid ((Ctl.uq (t.drop (i + 1))).map ((acc ++ [t[i]]) ++ ·) = U) := Lib.hid (by rw [← hU1]; cases Ctl.uq (t.drop (i + 1)) <;> simp)
              clear hU1 HNo HYe hx
              go_wp2_with fail
              refine (HTx.out _).mono ?_
              rintro e w4 ⟨rfl, rfl⟩
              go_wp2_with fail
              refine (wb_any _ _ acc t[i] _ hib (by omega) hbr.size).mono ?_
              rintro e w6 ⟨rfl, hub6, hb6⟩
              have hB6 := hbr.trans hb6
              clear hib hbr hb6
              go_wp2
              go_roundg (t.length - (i + 1))
              case measure => omega
              case rel => exact ⟨i + 1, acc ++ [t[i]], by omega, by omega, by go_num, .inr hub6, by simp; omega, HN, hB6⟩
      · have hU1 := HU.out
        rw [List.drop_eq_nil_of_le (by omega)] at hU1
        have HF := Lib.hid (HNo.out U (by rw [← hU1]; rfl))
        clear hU1 HU HNo HYe
        go_wp2
        go_ret2
        exact ⟨ret_v HF.out.symm, hbr⟩
end Go.Proofs.YtfhkgbimnfjfhaaGreatDoor
set_option linter.unusedVariables false
set_option linter.unusedSimpArgs false
namespace Go.Proofs.YtfhkgbimnfjfhaaGreatDoor
open Go.RowKit

set_option maxRecDepth 100000
/-- The library's variable holds some int. -/
def MaxL (w : World) : Prop := ∃ m : Int, w.cell? ⟨0, 0, none⟩ = some (.int .i64 m)
theorem maxl_b {w w' : World} (h : MaxL w) (hb : Below w.heap.size w w') : MaxL w' := by
  obtain ⟨m, hm⟩ := h
  exact ⟨m, (World.cell?_of_block (hb.block _ (World.block_lt_of_cell? w _ hm))).trans hm⟩
theorem maxl_of {W : World} (h : W.ShapedOpen Tryz.prog) : MaxL W := cell_of_shapedOpen_int (k := .i64) h (of_decide_eq_true (by kernel_rfl)) (t := 3) (zero := #[.int .i64 0]) (by kernel_rfl) rfl (by kernel_rfl) (by kernel_rfl) Tryz.underlying3
theorem cut_any (s : List UInt8) (c : UInt8) (w : World) (hM : MaxL w) (hs : s.length ≤ 1073741824) :
    Calls Tryz.prog 63 #[.string (bs s), .string ⟨#[c]⟩] w fun e w' => e = .returned (.tuple #[.string (bs (Ur.cutA c s)), .string (bs (Ur.cutB c s)), .bool (Ur.hasC c s)]) ∧ Below w.heap.size w w' := by
  obtain ⟨m, hm⟩ := hM
  refine (Tryz.strings_Cut (bs s) ⟨#[c]⟩ m w (by simp; omega) hm).mono fun e w' h => ⟨?_, ?_⟩
  · have h1 := h.1
    rw [show (ByteArray.mk #[c]).data.toList = [c] from rfl, bs_data, Ur.lib_cut] at h1
    exact h1
  · obtain ⟨n, h2⟩ := h.2
    rw [h2]; exact below_drewN (Below.refl _ _) n
end Go.Proofs.YtfhkgbimnfjfhaaGreatDoor
