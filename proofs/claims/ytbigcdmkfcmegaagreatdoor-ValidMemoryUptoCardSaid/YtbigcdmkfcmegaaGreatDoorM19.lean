/- Joined texts: The statements' own Show: a number in decimal digits; The reference's parts of a date's text: two, week, month, digits. The conditions stand in each line. -/
import Derived.Test.YtbigcdmkfcmegaaGreatDoorM2
import Derived.Test.YtbigcdmkfcmegaaGreatDoorM18
import Derived.Lib.ItoaNum
import Derived.Lib.ItoaLen
import Derived.IntWalk
import Derived.Deep.Cut
import Derived.Deep.DeepCutAuto
import Derived.Deep.LoopGhost
set_option linter.unusedVariables false
set_option linter.unusedSimpArgs false
namespace Go.Proofs.YtbigcdmkfcmegaaGreatDoor
open Go.RowKit

set_option maxRecDepth 100000
theorem one_rdBx (w : World) (b : UInt8) (t : TypeId) (x : Int) (h : x = (b.toNat : Int)) : RdB (w.alloc (.cells #[.int .u8 x] t)) (some ⟨w.heap.size, 0, none⟩) 1 [b] := by subst h; exact one_rdB w b t
def restD (r : Nat) : List UInt8 := if r = 0 then [] else Lib.decDigits r
theorem restD_step {r : Nat} (h : r ≠ 0) : restD r = restD (r / 10) ++ [UInt8.ofNat (48 + r % 10)] := by
  unfold restD
  rw [if_neg h, Lib.decDigits]
  by_cases h10 : r < 10
  · rw [dif_pos h10, if_pos (by omega)]
    simp [Nat.mod_eq_of_lt h10]
  · rw [dif_neg h10, if_neg (by omega)]
theorem dig_nat (r : Nat) : (UInt8.ofNat (48 + r % 10)).toNat = 48 + r % 10 := by
  rw [UInt8.toNat_ofNat']; omega
theorem dec_len {k : Nat} (h : k < 18446744073709551616) : (Lib.decDigits k).length ≤ 20 := by
  rw [Lib.decDigits_length]
  exact Lib.nDigits_le20 k h
set_option maxHeartbeats 4000000 in
theorem show_pos (k : Nat) (w : World) (hk : (k : Int) ≤ 9223372036854775807) :
    Calls Tryz.prog 86 #[.int .i64 k] w fun e w' => e = .returned (.string (bs (Lib.decDigits k))) ∧ Below w.heap.size w w' := by
  by_cases h0 : k = 0
  · subst h0
    have hb : (((0 : Nat) : Int) == 0) = true := rfl
    have HD : Hid (Lib.decDigits 0 = [48]) := Lib.hid (by rw [Lib.decDigits_one (by omega)]; rfl)
    go_enter Tryz.func86, Tryz.ntmps86
    go_wp2
    go_ret
    exact ⟨ret_str (by rw [HD.out]), Below.refl _ _⟩
  · have hb : ((k : Int) == 0) = false := by rw [beq_eq_false_iff_ne]; omega
    have hk0 : ¬ (k : Int) < 0 := by omega
    have hdk : decide ((k : Int) < 0) = false := by simp
    have HL := Lib.hid (dec_len (k := k) (by omega))
    have H0 : Hid (restD k ++ ([] : List UInt8).reverse = Lib.decDigits k) := Lib.hid (by unfold restD; rw [if_neg h0]; simp)
    generalize Lib.decDigits k = D at *
    have hm := OwnB.made w
    have hbm := alloc_below w (.cells #[] 5)
    go_enter Tryz.func86, Tryz.ntmps86
    go_upto_region 4 with fail
    generalize hw1 : w.alloc (.cells #[] 5) = w1 at *
    clear hw1
    go_wp2
    go_loopg [0, 3] k (fun q v ds wr => ∃ (r : Nat) (rd : List UInt8) (A : Option Addr) (n c : Nat), q = r ∧ r ≤ k ∧ v = .int .i64 (r : Int) ∧ ds = .slice A n c ∧ OwnB wr w.heap.size (.slice A n c) rd ∧ Hid (restD r ++ rd.reverse = D) ∧ Below w.heap.size w wr)
    case atStart => exact ⟨k, [], _, 0, 0, rfl, Nat.le_refl _, rfl, rfl, hm, H0, hbm⟩
    case round =>
      clear hm hbm H0
      obtain ⟨r, rd, A, n, c, hq, hrk, rfl, rfl, hown, HR, hbr⟩ := hrel
      obtain ⟨wo, rfl⟩ : ∃ wo, wo = wr := ⟨_, rfl⟩
      have hlen : rd.length ≤ 20 := by
        have h1 := congrArg List.length HR.out
        rw [List.length_append, List.length_reverse] at h1
        have := HL.out
        omega
      have hszr := hbr.size
      by_cases hr0 : r = 0
      · subst hr0
        have hbb : ((((0 : Nat) : Int)) != 0) = false := rfl
        have HF : Hid (rd.reverse = D) := Lib.hid (by have := HR.out; unfold restD at this; simpa using this)
        have hrd := hown.rd
        have hnr : rd.length = n := hrd.1
        have hal := alloc_below wo (.cells #[] 5)
        have hm := OwnB.made wo
        have hrd3 := hrd
        have hbr2 := bnext hbr hal hbr.size
        have HNR := Lib.hid hnr
        have hn20 : n ≤ 20 := by omega
        have hwn : IntKind.i64.wrap ((n : Int) - 1) = (n : Int) - 1 := IntWalk.i64_in _ (by omega)
        clear hown hrd HR hlen hnr HL hb hk0
        go_upto_region 14 with fail
        generalize hw2 : wo.alloc (.cells #[] 5) = w2 at *
        have hal9 : Below wo.heap.size wo w2 := hal
        clear hw2 hal
        go_wp2
        go_loopg [6, 7] n (fun q o t wq => ∃ (j : Nat) (A5 : Option Addr) (n5 c5 : Nat), j ≤ n ∧ q = j ∧ t = .int .i64 ((j : Int) - 1) ∧ o = .slice A5 n5 c5 ∧ OwnB wq wo.heap.size (.slice A5 n5 c5) (rd.drop j).reverse ∧ Below wo.heap.size wo wq)
        case atStart => exact ⟨n, _, 0, 0, by omega, rfl, rfl, rfl, by rw [List.drop_of_length_le (by rw [HNR.out]; exact Nat.le_refl _)]; exact hm, hal9⟩
        case round =>
          clear hm hal9
          obtain ⟨j, A5, n5, c5, hj, hq5, rfl, rfl, hown5, hb5⟩ := hrel
          obtain ⟨wp, rfl⟩ : ∃ wp, wp = wr := ⟨_, rfl⟩
          have hrd5 := hrd3.step hb5
          rcases Nat.eq_zero_or_pos j with rfl | hjp
          · have hneg : (((0 : Nat) : Int) - 1) = -1 := by omega
            rw [hneg]
            have hcv := conv_bs (w := wp) (A := A5) (n := n5) (l := D) (by have := hown5.rd; rw [List.drop_zero, HF.out] at this; exact this) c5
            clear hneg HF
            go_wp2
            go_ret
            exact ⟨rfl, hbr.trans (hb5.mono hbr.size)⟩
          · obtain ⟨i, rfl⟩ : ∃ i, j = i + 1 := ⟨j - 1, by omega⟩
            have hk1 : (((i + 1 : Nat) : Int) - 1) = (i : Int) := by omega
            rw [hk1]
            have hil : i < rd.length := by rw [HNR.out]; omega
            obtain ⟨g, o, rfl, hg, hc5⟩ := hrd5.2.2 (by omega)
            have hci := hc5 i (bytV rd[i]) (by simp [hil])
            have HRV : Hid ((rd.drop i).reverse = (rd.drop (i + 1)).reverse ++ [rd[i]]) := Lib.hid (by rw [List.drop_eq_getElem_cons hil]; simp)
            unfold bytV at hci
            have hrl : (rd.drop (i + 1)).reverse.length ≤ 20 := by have := HNR.out; simp; omega
            generalize rd[i] = b at *
            generalize (rd.drop (i + 1)).reverse = ro at *
            have i0 : (0 : Int) ≤ (i : Int) := by omega
            have i1 : (i : Int) < (n : Int) := by omega
            have hsz5 := hb5.size
            clear hk1 hc5 hrd5
            go_wp2_with
              (at_builtin; go_loud (
               refine wp_appB rfl (.tmp 41) (.tmp 46) rfl wo.heap.size (.slice A5 n5 c5) ro rfl (hown5.step (alloc_below _ _)) _ 1 1 [b] rfl (one_rdB _ _ _) ?hby2 ?hbase2 ?_
               case hby2 => omega
               case hbase2 => simp; omega
               intro A1 n1 c1 w1 hown1 hb1 hn1))
            go_roundg i
            case measure => omega
            case rel => exact ⟨i, A1, n1, c1, by omega, rfl, rfl, rfl, by rw [HRV.out]; exact hown1, (bnext hb5 (alloc_below _ _) hb5.size).trans hb1⟩
      · have hbb : ((r : Int) != 0) = true := by simp [hr0]
        have HST := Lib.hid (restD_step hr0)
        have HV : Hid ((48 : Int) + (r : Int) % 10 = ((UInt8.ofNat (48 + r % 10)).toNat : Int)) := Lib.hid (by rw [dig_nat]; omega)
        have hd0 : 0 ≤ (r : Int) % 10 := by omega
        have hd9 : (r : Int) % 10 ≤ 9 := by omega
        have hri : (r : Int) ≤ 9223372036854775807 := by omega
        generalize UInt8.ofNat (48 + r % 10) = b at *
        go_wp2_with
          (at_builtin; go_loud (
           refine wp_appB rfl (.tmp 21) (.tmp 25) rfl w.heap.size (.slice A n c) rd rfl (hown.step (alloc_below _ _)) _ 1 1 [b] rfl (one_rdBx _ _ _ _ ?hx) ?hby ?hbase ?_
           case hx => exact HV.out
           case hby => omega
           case hbase => simp; omega
           intro A1 n1 c1 w1 hown1 hb1 hn1))
        go_roundg (r / 10)
        case measure => omega
        case rel => exact ⟨r / 10, rd ++ [b], A1, n1, c1, rfl, by omega, by go_num, rfl, hown1, Lib.hid (by rw [← HR.out, HST.out]; simp), (bnext hbr (alloc_below _ _) hbr.size).trans hb1⟩
end Go.Proofs.YtbigcdmkfcmegaaGreatDoor
set_option linter.unusedVariables false
set_option linter.unusedSimpArgs false
namespace Go.Proofs.YtbigcdmkfcmegaaGreatDoor
open Go.RowKit

set_option maxRecDepth 100000
set_option maxHeartbeats 1000000 in
theorem two_gen (k n : Nat) (w : World) (hk : (k : Int) ≤ 9223372036854775807) (hn : n ≤ 20) (hl : (Lib.decDigits k).length ≤ n) :
    Calls Tryz.prog 84 #[.int .i64 k, .int .i64 n] w fun e w' => e = .returned (.string (bs (List.replicate (n - (Lib.decDigits k).length) 48 ++ Lib.decDigits k))) ∧ Below w.heap.size w w' := by
  have hC := show_pos k w hk
  generalize Lib.decDigits k = D at *
  go_enter Tryz.func84, Tryz.ntmps84
  go_wp2_with fail
  refine hC.mono ?_
  rintro e w1 ⟨rfl, hb1⟩
  clear hC
  go_wp2
  go_loopg [5] n (fun r s wr => ∃ i : Nat, i + D.length ≤ n ∧ r + i = n ∧ s = .string (bs (List.replicate i 48 ++ D)) ∧ wr = w1)
  case atStart => exact ⟨0, by omega, by omega, by simp, rfl⟩
  case round =>
    obtain ⟨i, hi, hr, rfl, rfl⟩ := hrel
    have hll : (List.replicate i (48 : UInt8) ++ D).length = i + D.length := by simp
    have HS : Hid ([48] ++ (List.replicate i (48 : UInt8) ++ D) = List.replicate (i + 1) 48 ++ D) := Lib.hid rfl
    have HR : Hid (i + D.length = n → List.replicate i (48 : UInt8) ++ D = List.replicate (n - D.length) 48 ++ D) := Lib.hid fun h => by rw [show i = n - D.length by omega]
    generalize List.replicate i (48 : UInt8) ++ D = L at *
    by_cases hlt : i + D.length < n
    · go_wp2
      go_roundg (n - (i + 1))
      case measure => omega
      case rel => exact ⟨i + 1, by omega, by omega, by rw [← HS.out]; rfl, rfl⟩
    · have HF := Lib.hid (HR.out (by omega))
      clear HR HS
      go_wp2
      go_ret
      exact ⟨ret_str HF.out, hb1⟩
theorem two2_any (v : Int) (w : World) (h0 : 0 ≤ v) (h1 : v < 100) : Calls Tryz.prog 84 #[.int .i64 v, .int .i64 2] w fun e w' => e = .returned (.string (bs (Dt.pad2 v))) ∧ Below w.heap.size w w' := by
  obtain ⟨k, rfl⟩ : ∃ k : Nat, v = k := ⟨v.toNat, by omega⟩
  by_cases hk : k < 10
  · have hl : (Lib.decDigits k).length = 1 := by rw [Lib.decDigits_one hk]; rfl
    have := two_gen k 2 w (by omega) (by omega) (by omega)
    rw [hl] at this
    rw [← pad2_small hk]
    exact this
  · have hl : (Lib.decDigits k).length = 2 := by rw [Lib.decDigits_two hk (by omega)]; rfl
    have := two_gen k 2 w (by omega) (by omega) (by omega)
    rw [hl] at this
    rw [← pad2_big hk (by omega)]
    exact this
theorem two4_any (v : Int) (w : World) (h0 : 1000 ≤ v) (h1 : v < 10000) : Calls Tryz.prog 84 #[.int .i64 v, .int .i64 4] w fun e w' => e = .returned (.string (bs (Dt.pad4 v))) ∧ Below w.heap.size w w' := by
  obtain ⟨k, rfl⟩ : ∃ k : Nat, v = k := ⟨v.toNat, by omega⟩
  have he := dec_four (k := k) (by omega) (by omega)
  have hl : (Lib.decDigits k).length = 4 := by rw [he]; rfl
  have := two_gen k 4 w (by omega) (by omega) (by omega)
  rw [hl, he] at this
  exact this
theorem wk_cell (w : World) (k : Nat) (hk : k < 7) : (w.alloc (.cells #[.string (bs (Dt.wkN 0)), .string (bs (Dt.wkN 1)), .string (bs (Dt.wkN 2)), .string (bs (Dt.wkN 3)), .string (bs (Dt.wkN 4)), .string (bs (Dt.wkN 5)), .string (bs (Dt.wkN 6))] 92)).cell? ⟨w.heap.size, k, none⟩ = some (.string (bs (Dt.wkN k))) := by
  rw [cell_of_row _ _ _ _ _ _ (heap_alloc_new w _)]
  have hc : k = 0 ∨ k = 1 ∨ k = 2 ∨ k = 3 ∨ k = 4 ∨ k = 5 ∨ k = 6 := by omega
  rcases hc with rfl | rfl | rfl | rfl | rfl | rfl | rfl <;> rfl
theorem week_r (n : Int) (w : World) (h0 : 0 ≤ n) (h1 : n ≤ 3000000) : Calls Tryz.prog 85 #[.int .i64 n] w fun e w' => e = .returned (.string (bs (Dt.wkN (Dt.wd n)))) ∧ Below w.heap.size w w' := by
  have hal := alloc_below w (.cells #[.string (bs (Dt.wkN 0)), .string (bs (Dt.wkN 1)), .string (bs (Dt.wkN 2)), .string (bs (Dt.wkN 3)), .string (bs (Dt.wkN 4)), .string (bs (Dt.wkN 5)), .string (bs (Dt.wkN 6))] 92)
  have hc := wk_cell w (Dt.wd n) (Dt.wd_lt n)
  have hwd : (n % 7).toNat = Dt.wd n := rfl
  have hw0 : 0 ≤ n % 7 := by omega
  have hw1 : n % 7 < 7 := by omega
  have hw7 := Dt.wd_lt n
  have hwi := Dt.wd_int n
  generalize Dt.wd n = k at *
  go_enter Tryz.func85, Tryz.ntmps85
  go_wp2
  go_ret
  refine ⟨?_, hal⟩
  have hcs : k = 0 ∨ k = 1 ∨ k = 2 ∨ k = 3 ∨ k = 4 ∨ k = 5 ∨ k = 6 := by omega
  clear hc hwd hwi hal
  rcases hcs with rfl | rfl | rfl | rfl | rfl | rfl | rfl <;> rfl
theorem month_r (m : Int) (w : World) (h1 : 1 ≤ m) (h2 : m ≤ 12) : Calls Tryz.prog 65 #[.int .i64 m] w fun e w' => e = .returned (.string (bs (Dt.moN m.toNat))) ∧ w = w' := by
  obtain ⟨k, rfl⟩ : ∃ k : Nat, m = (k : Int) + 1 := ⟨(m - 1).toNat, by omega⟩
  have hp := monS_piece ⟨k, by omega⟩
  dsimp only at hp
  have hk1 : ((k : Int) + 1).toNat = k + 1 := by omega
  rw [hk1]
  have HP := Lib.hid hp
  have j0 : (0 : Int) ≤ 3 * ((k : Int) + 1) - 3 := by omega
  have j1 : (3 * ((k : Int) + 1) - 3).toNat = 3 * (k + 1) - 3 := by omega
  have j2 : (3 * ((k : Int) + 1)).toNat = 3 * (k + 1) := by omega
  clear hp hk1
  go_enter Tryz.func65, Tryz.ntmps65
  go_wp2
  have hp := HP.out
  unfold monS at hp
  rw [hp]
  go_ret
  exact ⟨rfl, rfl⟩
theorem piece_step {s : List UInt8} {i e : Nat} (h : i < e) (he : e ≤ s.length) : Dt.piece s i (e - i) = s[i] :: Dt.piece s (i + 1) (e - (i + 1)) := by
  unfold Dt.piece
  rw [List.drop_eq_getElem_cons (by omega), show e - i = (e - (i + 1)) + 1 by omega, List.take_succ_cons]
theorem pow9 : ∀ k : Fin 10, (10 : Int) ^ k.val ≤ 1000000000 := by decide
theorem piece_end (s : List UInt8) (e : Nat) : Dt.piece s e (e - e) = [] := by unfold Dt.piece; simp
set_option maxHeartbeats 2000000 in
theorem digits_any (s : List UInt8) (a e : Nat) (w : World) (hae : a ≤ e) (he : e ≤ s.length) (h9 : e - a ≤ 9) (hs : s.length ≤ 4398046511104) :
    Calls Tryz.prog 64 #[.string (bs s), .int .i64 a, .int .i64 e] w fun x w' => x = .returned (.int .i64 (Dt.digs s a (e - a))) ∧ w = w' := by
  have H0 : Hid (Dt.rdig true 0 (Dt.piece s a (e - a)) = Dt.digs s a (e - a)) := Lib.hid rfl
  generalize Dt.digs s a (e - a) = R at *
  go_enter Tryz.func64, Tryz.ntmps64
  go_wp2
  go_loopg [7, 8, 9] (e - a) (fun r v i c wr => ∃ (k : Nat) (x : Int), a + k ≤ e ∧ r + k = e - a ∧ v = .int .i64 x ∧ i = .int .i64 ((a + k : Nat) : Int) ∧ 0 ≤ x ∧ x < 10 ^ k ∧ Hid (Dt.rdig (decide (k = 0)) x (Dt.piece s (a + k) (e - (a + k))) = R) ∧ wr = w)
  case atStart => exact ⟨0, 0, by omega, by omega, rfl, rfl, by omega, by decide, H0, rfl⟩
  case round =>
    clear H0
    obtain ⟨k, x, hk, hr, rfl, rfl, hx0, hx1, HR, rfl⟩ := hrel
    have hx9 : x < 1000000000 := by
      have := pow9 ⟨k, by omega⟩
      dsimp only at this
      omega
    have HP10 : Hid ((10 : Int) ^ (k + 1) = 10 ^ k * 10) := Lib.hid (Int.pow_succ ..)
    by_cases hlt : a + k < e
    · have hp := piece_step hlt he
      have hlen : a + k < s.length := by omega
      have HST : Hid (Dt.rdig (decide (k = 0)) x (Dt.piece s (a + k) (e - (a + k))) = (if s[a + k].toNat = 32 ∧ decide (k = 0) = true then Dt.rdig false (x * 10) (Dt.piece s (a + k + 1) (e - (a + k + 1))) else if s[a + k].toNat < 48 ∨ 57 < s[a + k].toNat then -1 else Dt.rdig false (x * 10 + (s[a + k].toNat : Int) - 48) (Dt.piece s (a + k + 1) (e - (a + k + 1))))) := Lib.hid (by rw [hp]; rfl)
      have hc255 := s[a + k].toNat_lt
      have j0 : (0 : Int) ≤ ((a + k : Nat) : Int) := by omega
      have HDK : Hid (decide (k + 1 = 0) = false) := Lib.hid (by simp)
      clear hp
      rw [show a + k + 1 = a + (k + 1) by omega] at HST
      have hcs : (s[a + k].toNat = 32 ∧ k = 0) ∨ (¬ (s[a + k].toNat = 32 ∧ k = 0) ∧ (s[a + k].toNat < 48 ∨ 57 < s[a + k].toNat)) ∨ (¬ (s[a + k].toNat = 32 ∧ k = 0) ∧ 48 ≤ s[a + k].toNat ∧ s[a + k].toNat ≤ 57) := by omega
      rcases hcs with ⟨hb1, hb2⟩ | ⟨hb, hb1⟩ | ⟨hb, hb1, hb2⟩
      · have HN : Hid (Dt.rdig (decide (k + 1 = 0)) (x * 10) (Dt.piece s (a + (k + 1)) (e - (a + (k + 1)))) = R) := Lib.hid (by
          rw [HDK.out, ← HR.out, HST.out, if_pos ⟨hb1, by simp [hb2]⟩])
        have hxz : x = 0 := by subst hb2; simp at hx1; omega
        subst hb2 hxz
        have e1 : ((s[a].toNat : Int) == 32) = true := by
          have : s[a].toNat = 32 := hb1
          rw [this]; rfl
        clear HR HST hb1 HP10
        go_wp2
        go_roundg (e - a - 1)
        case measure => omega
        case rel => exact ⟨1, 0, by omega, by omega, rfl, by go_num, by omega, by decide, HN, rfl⟩
      · have HN : Hid (R = -1) := Lib.hid (by rw [← HR.out, HST.out, if_neg (by simpa using hb), if_pos hb1])
        have HB := Lib.hid hb
        clear HR HST HP10 hb
        by_cases hk0 : k = 0
        · subst hk0
          have hn32 : s[a].toNat ≠ 32 := fun h => HB.out ⟨h, rfl⟩
          have e1 : ((s[a].toNat : Int) == 32) = false := by rw [beq_eq_false_iff_ne]; omega
          have hb1' : s[a].toNat < 48 ∨ 57 < s[a].toNat := hb1
          clear hb1
          rcases hb1' with g1 | g1
          · go_wp2
            go_ret
            exact ⟨ret_int HN.out.symm, rfl⟩
          · have g2 : ¬ s[a].toNat < 48 := by omega
            go_wp2
            go_ret
            exact ⟨ret_int HN.out.symm, rfl⟩
        · have e2 : (((a + k : Nat) : Int) == (a : Int)) = false := by rw [beq_eq_false_iff_ne]; omega
          have e3 : ((a : Int) + (k : Int) == (a : Int)) = false := by rw [beq_eq_false_iff_ne]; omega
          have hc32 : ((s[a + k].toNat : Int) == 32) = true ∨ ((s[a + k].toNat : Int) == 32) = false := by cases ((s[a + k].toNat : Int) == 32) <;> simp
          rcases hb1 with g1 | g1
          · rcases hc32 with e1 | e1
            all_goals
              go_wp2
              go_ret
              exact ⟨ret_int HN.out.symm, rfl⟩
          · have g2 : ¬ s[a + k].toNat < 48 := by omega
            rcases hc32 with e1 | e1
            all_goals
              go_wp2
              go_ret
              exact ⟨ret_int HN.out.symm, rfl⟩
      · have HN : Hid (Dt.rdig (decide (k + 1 = 0)) (x * 10 + (s[a + k].toNat : Int) - 48) (Dt.piece s (a + (k + 1)) (e - (a + (k + 1)))) = R) := Lib.hid (by
          rw [HDK.out, ← HR.out, HST.out, if_neg (by simpa using hb), if_neg (by omega)])
        have g0 : ¬ s[a + k].toNat < 48 := by omega
        have g1 : ¬ 57 < s[a + k].toNat := by omega
        have HXB : Hid (0 ≤ x * 10 + (s[a + k].toNat : Int) - 48 ∧ x * 10 + (s[a + k].toNat : Int) - 48 < 10 ^ (k + 1)) := Lib.hid (by rw [HP10.out]; omega)
        have HREL : Hid (∃ (k1 : Nat) (x1 : Int), a + k1 ≤ e ∧ (e - (a + k + 1)) + k1 = e - a ∧ (Value.int IntKind.i64 (x * 10 + (s[a + k].toNat : Int) - 48)) = .int .i64 x1 ∧ (Value.int IntKind.i64 (((a + k : Nat) : Int) + 1)) = .int .i64 ((a + k1 : Nat) : Int) ∧ 0 ≤ x1 ∧ x1 < 10 ^ k1 ∧ Hid (Dt.rdig (decide (k1 = 0)) x1 (Dt.piece s (a + k1) (e - (a + k1))) = R) ∧ wr = wr) := Lib.hid ⟨k + 1, _, by omega, by omega, rfl, by go_num, HXB.out.1, HXB.out.2, HN, rfl⟩
        have e1 : ((s[a + k].toNat : Int) == 32) = false := by rw [beq_eq_false_iff_ne]; omega
        clear HR HST HP10 HN HXB hb
        by_cases hk0 : k = 0
        · subst hk0
          have e1' : ((s[a].toNat : Int) == 32) = false := e1
          have g0' : ¬ s[a].toNat < 48 := g0
          have g1' : ¬ 57 < s[a].toNat := g1
          clear e1 g0 g1 hb1 hb2
          go_wp2
          go_roundg (e - (a + 0 + 1))
          case measure => omega
          case rel => simpa using HREL.out
        · go_wp2
          go_roundg (e - (a + k + 1))
          case measure => omega
          case rel => simpa using HREL.out
    · obtain rfl : a + k = e := by omega
      have HF : Hid (x = R) := Lib.hid (by rw [← HR.out, piece_end]; rfl)
      clear HR
      go_wp2
      go_ret
      exact ⟨ret_int HF.out, rfl⟩
end Go.Proofs.YtbigcdmkfcmegaaGreatDoor
