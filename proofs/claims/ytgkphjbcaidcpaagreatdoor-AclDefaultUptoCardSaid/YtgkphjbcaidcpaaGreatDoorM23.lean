/- Joined texts: alive: calls whose answers the document fixes. Condition: the library's variable MaxLen holds some int; Lines joined; lines without a byte 10; lines copied; text: lines joined with a byte 10 between; AclHosts: the plain law. The conditions stand in each line. -/
import Derived.Test.YtgkphjbcaidcpaaGreatDoorM22
set_option linter.unusedVariables false
set_option linter.unusedSimpArgs false
namespace Go.Proofs.YtgkphjbcaidcpaaGreatDoor
open Go.RowKit

set_option maxRecDepth 100000
namespace Ac
def little : T := [97, 99, 108, 32, 109, 101, 32, 115, 114, 99, 32, 49, 48, 46, 48, 46, 48, 46, 48, 47, 56, 10, 97, 99, 108, 32, 98, 97, 100, 32, 104, 111, 115, 116, 32, 46, 101, 118, 105, 108, 46, 111, 114, 103, 10, 100, 101, 110, 121, 32, 98, 97, 100, 10, 97, 108, 108, 111, 119, 32, 109, 101]
def meT : T := [109, 101]
def badT : T := [98, 97, 100]
def littleL : LS := ⟨[⟨meT, srcT, [[49, 48, 46, 48, 46, 48, 46, 48, 47, 56]]⟩, ⟨badT, hostT, [[46, 101, 118, 105, 108, 46, 111, 114, 103]]⟩], [⟨3, false, [badT]⟩, ⟨4, true, [meT]⟩]⟩
theorem parse_little : parse little = (littleL, 0, 0) := by kernel_rfl
def ask1 : Ask := ⟨167903747, [101, 118, 105, 108, 46, 111, 114, 103], 0, [], [], 0⟩
def ask2 : Ask := ⟨167903747, [97, 46, 111, 114, 103], 0, [], [], 0⟩
def ask3 : Ask := ⟨1, [], 0, [], [], 0⟩
theorem little1 : decide_ littleL ask1 = (false, 3) := by kernel_rfl
theorem little2 : decide_ littleL ask2 = (true, 4) := by kernel_rfl
theorem little3 : decide_ littleL ask3 = (false, 0) := by kernel_rfl
end Ac
theorem ask_ok {s : Int} {h : List UInt8} (hh : h.length ≤ 4194304) : AskOK ⟨s, h, 0, [], [], 0⟩ := ⟨hh, by simp, by simp, by simp, by simp⟩
theorem dec_lit (g : Nat) (a : Ac.Ask) (b : Bool) (n : Nat) (h : Ac.decide_ Ac.littleL a = (b, n)) : decV Ac.littleL a = .tuple #[.bool b, .int .i64 (n : Int)] := by unfold decV; rw [h]
set_option maxHeartbeats 2000000 in
theorem alive_any (w : World) (hM : MaxL w) : Calls Tryz.prog 7 #[] w fun e w' => e = .returned (.bool true) ∧ Below w.heap.size w w' := by
  have hP := parse_any Ac.little w hM (by decide)
  unfold ParseOut at hP
  rw [Ac.parse_little] at hP
  have hD := fun g a W hM ha hP => decide_any g Ac.littleL a W hM ha hP
  have k1 := dec_lit 0 Ac.ask1 _ _ Ac.little1
  have k2 := dec_lit 0 Ac.ask2 _ _ Ac.little2
  have k3 := dec_lit 0 Ac.ask3 _ _ Ac.little3
  have HD := Lib.hid hD
  clear hD
  go_enter Tryz.func7, Tryz.ntmps7
  go_wp2_with fail
  refine hP.mono ?_
  rintro x w1 ⟨v, rfl, hy, -, hb1⟩
  obtain ⟨g, rfl, hL⟩ := hy (by trivial)
  replace hL := hL w1 (fun _ _ _ => rfl)
  have hM1 := maxl_b hM hb1
  have hD1 := HD.out g Ac.ask1 w1 hM1 (ask_ok (by decide)) hL
  have HL := Lib.hid hL
  rw [k1] at hD1
  clear hP hy hL k1
  go_wp2_with fail
  refine hD1.mono ?_
  rintro x w2 ⟨rfl, hb2⟩
  have hL2 := HL.out.step hb2
  have hM2 := maxl_b hM1 hb2
  have hD2 := HD.out g Ac.ask2 w2 hM2 (ask_ok (by decide)) hL2
  have HL2 := Lib.hid hL2
  rw [k2] at hD2
  clear hD1 hL2 k2
  go_wp2_with fail
  refine hD2.mono ?_
  rintro x w3 ⟨rfl, hb3⟩
  have hD3 := HD.out g Ac.ask3 w3 (maxl_b hM2 hb3) (ask_ok (by decide)) (HL2.out.step hb3)
  rw [k3] at hD3
  clear hD2 k3
  go_wp2_with fail
  refine hD3.mono ?_
  rintro x w4 ⟨rfl, hb4⟩
  clear hD3
  go_wp2
  go_ret
  exact ⟨rfl, bnext (bnext (bnext hb1 hb2 hb1.size) hb3 (Nat.le_trans hb1.size hb2.size)) hb4 (Nat.le_trans hb1.size (Nat.le_trans hb2.size hb3.size))⟩
end Go.Proofs.YtgkphjbcaidcpaaGreatDoor
set_option linter.unusedVariables false
set_option linter.unusedSimpArgs false
namespace Go.Proofs.YtgkphjbcaidcpaaGreatDoor
open Go.RowKit

set_option maxRecDepth 100000
namespace Ac
def join : List T → T
  | [] => []
  | x :: r => x ++ r.flatMap (10 :: ·)
theorem join_snoc (l : List T) (s : T) : join (l ++ [s]) = join l ++ (if 0 < l.length then [10] else []) ++ s := by
  cases l with
  | nil => simp [join]
  | cons x r => simp [join]
theorem join_cons (x y : T) (r : List T) : join (x :: y :: r) = x ++ 10 :: join (y :: r) := by simp [join]
def wholeL (l : List T) : Bool := l.all fun s => s.all (· != 10)
theorem split_join : ∀ l : List T, l ≠ [] → wholeL l = true → Ur.splitc 10 (join l) = l
  | [], h, _ => absurd rfl h
  | [x], _, h => by
    have hx : ∀ b ∈ x, b ≠ 10 := by simpa [wholeL] using h
    rw [show join [x] = x by simp [join], Ur.splitc_one hx]
  | x :: y :: r, _, h => by
    have h2 : (x.all (· != 10)) = true ∧ wholeL (y :: r) = true := by
      unfold wholeL at h ⊢
      rw [List.all_cons, Bool.and_eq_true] at h
      exact h
    have hx : ∀ b ∈ x, b ≠ 10 := by simpa using h2.1
    rw [join_cons, Ur.splitc_of hx, split_join (y :: r) (by simp) h2.2]
end Ac
theorem all_nat {s : List UInt8} {k : Nat} (hk : k < s.length) (h : (s.take k).all (· != 10) = true) (h2 : s[k] ≠ 10) : (s.take (k + 1)).all (· != 10) = true := by
  rw [take_snoc s k hk, List.all_append, h]; simp [h2]
set_option maxHeartbeats 2000000 in
theorem whole_any (A : Option Addr) (n c : Nat) (l : List (List UInt8)) (w : World) (hl : RdS w A n l) (hn : n ≤ 4194304) (hlen : ∀ s ∈ l, s.length ≤ 4194304) :
    Calls Tryz.prog 12 #[.slice A n c] w fun e w' => e = .returned (.bool (Ac.wholeL l)) ∧ w' = w := by
  have HF : Hid (∀ (i : Nat) (s : List UInt8), l[i]? = some s → s.all (· != 10) = false → Ac.wholeL l = false) := Lib.hid fun i s h1 h2 => by
    unfold Ac.wholeL
    exact all_noX _ h1 h2
  have HE : Hid ((l.take n).all (fun s => s.all (· != 10)) = true → Ac.wholeL l = true) := Lib.hid fun h => by rw [List.take_of_length_le (by rw [hl.1]; exact Nat.le_refl _)] at h; exact h
  generalize Ac.wholeL l = R at *
  go_enter Tryz.func12, Tryz.ntmps12
  go_wp2
  go_loop [3] (fun t => ∃ i : Nat, i ≤ n ∧ t = .int .i64 (i : Int) ∧ Hid ((l.take i).all (fun s => s.all (· != 10)) = true)) (fun t => n - (intOf t).toNat)
  case atStart => exact ⟨0, by omega, rfl, Lib.hid rfl⟩
  case round =>
    obtain ⟨i, hi, rfl, HI⟩ := hrel
    by_cases hlt : i < n
    · obtain ⟨g, o, s, rfl, hg, HS, hc⟩ := hl.at_ hlt
      have hsl := hlen s (mem_of_get? HS.out)
      go_wp2
      go_loop [4] (fun t => ∃ k : Nat, k ≤ s.length ∧ t = .int .i64 (k : Int) ∧ Hid ((s.take k).all (· != 10) = true)) (fun t => s.length - (intOf t).toNat)
      case atStart => exact ⟨0, by omega, rfl, Lib.hid rfl⟩
      case round =>
        obtain ⟨k, hk, rfl, HK⟩ := hrel
        by_cases hlt2 : k < s.length
        · by_cases q1 : (s[k].toNat : Int) = 10
          · have i1 : ((s[k].toNat : Int) == 10) = true := by rw [beq_iff_eq]; exact q1
            have HR : Hid (R = false) := Lib.hid (HF.out i s HS.out (by
              have h9 : s[k] = 10 := UInt8.toNat_inj.1 (by show s[k].toNat = 10; omega)
              rw [← Bool.not_eq_true, List.all_eq_true]
              intro h
              have := h s[k] (List.getElem_mem hlt2)
              rw [h9] at this
              exact absurd this (by decide)))
            clear q1
            go_wp2
            go_ret
            exact ⟨by rw [HR.out]; rfl, rfl⟩
          · have i1 : ((s[k].toNat : Int) == 10) = false := by rw [beq_eq_false_iff_ne]; exact q1
            have HK2 := Lib.hid (all_nat hlt2 HK.out (fun e => q1 (by rw [e]; rfl)))
            clear q1
            go_wp2
            go_round
            case rel => exact ⟨k + 1, by omega, by go_num, HK2⟩
            case measure => simp [intOf]; omega
        · obtain rfl : k = s.length := by omega
          have HI2 : Hid ((l.take (i + 1)).all (fun s => s.all (· != 10)) = true) := Lib.hid (by
            have h9 := HK.out
            rw [List.take_length] at h9
            rw [allQ_snoc _ HS.out, HI.out, h9]; rfl)
          go_wp2
          go_round
          case rel => exact ⟨i + 1, by omega, by go_num, HI2⟩
          case measure => simp [intOf]; omega
    · obtain rfl : i = n := by omega
      have HR := Lib.hid (HE.out HI.out)
      go_wp2
      go_ret
      exact ⟨by rw [HR.out]; rfl, rfl⟩
end Go.Proofs.YtgkphjbcaidcpaaGreatDoor
set_option linter.unusedVariables false
set_option linter.unusedSimpArgs false
namespace Go.Proofs.YtgkphjbcaidcpaaGreatDoor
open Go.RowKit

set_option maxRecDepth 100000
theorem join_le (l : List (List UInt8)) (i : Nat) : (Ac.join (l.take i)).length ≤ (Ac.join l).length := by
  have h : ∀ (m r : List (List UInt8)), (Ac.join m).length ≤ (Ac.join (m ++ r)).length := by
    intro m r
    cases m with
    | nil => simp [Ac.join]
    | cons x y => simp [Ac.join]
  have := h (l.take i) (l.drop i)
  rwa [List.take_append_drop] at this
set_option maxHeartbeats 2000000 in
theorem text_any (A : Option Addr) (n c : Nat) (l : List (List UInt8)) (w : World) (hl : RdS w A n l) (hn : n ≤ 4194304) (htot : (Ac.join l).length ≤ 8388608) :
    Calls Tryz.prog 13 #[.slice A n c] w fun e w' => e = .returned (.string (bs (Ac.join l))) ∧ Below w.heap.size w w' := by
  have HLE := Lib.hid (join_le l)
  have HT := Lib.hid htot
  have hal := alloc_below w (.cells #[] 5)
  have hown0 := OwnB.made w
  have HFin : Hid ((Ac.join (l.take n)) = Ac.join l) := Lib.hid (by rw [List.take_of_length_le (by rw [hl.1]; exact Nat.le_refl _)])
  have hlen : l.length = n := hl.1
  go_enter Tryz.func13, Tryz.ntmps13
  go_upto_region 2 with fail
  have HOWN := Lib.hid hown0
  have hsz : w.heap.size ≤ (w.alloc (.cells #[] 5)).heap.size := by simp
  generalize w.alloc (.cells #[] 5) = w1 at *
  clear hown0 htot
  go_wp2_with fail
  go_loopw [3, 4] (fun v t wr => ∃ (i : Nat) (A5 : Option Addr) (n5 c5 : Nat), i ≤ n ∧ t = .int .i64 (i : Int) ∧ v = .slice A5 n5 c5 ∧ Hid (OwnB wr w.heap.size (.slice A5 n5 c5) (Ac.join (l.take i))) ∧ Hid (Below w.heap.size w wr)) (fun _ t _ => n - (intOf t).toNat)
  case atStart => exact ⟨0, _, _, _, by omega, rfl, rfl, HOWN, Lib.hid hal⟩
  case round =>
    obtain ⟨i, A5, n5, c5, hi, rfl, rfl, HO, HB⟩ := hrel
    by_cases hlt : i < n
    · obtain ⟨g, o, s, rfl, hg, HS, hc⟩ := (hl.step HB.out).at_ hlt
      have hj : Ac.join (l.take (i + 1)) = Ac.join (l.take i) ++ (if 0 < i then [10] else []) ++ s := by
        rw [take_snoc? HS.out, Ac.join_snoc, List.length_take, Nat.min_eq_left (by omega)]
      have hjl := HLE.out (i + 1)
      have hT := HT.out
      rw [hj] at hjl
      have hszr : w.heap.size ≤ wr.heap.size := HB.out.size
      have hbr := HB.out
      by_cases h0 : i = 0
      · subst h0
        rw [Nat.add_zero] at hc
        rw [if_neg (by omega), List.append_nil] at hj hjl
        rw [List.length_append] at hjl
        have HJ := Lib.hid hj
        clear hj
        have hcv := conv_sb s wr
        have hrow := bytesWorld_row wr 5 s
        have hbel := bytesWorld_below wr 5 (bs s)
        have hrd := hrow.rd (by rw [Lib.bytesWorld_size]; omega)
        have HO7 := Lib.hid (HO.out.step hbel)
        have hsz7 := Nat.le_trans hszr hbel.size
        have HB7 := Lib.hid (bnext hbr hbel hszr)
        generalize Lib.bytesWorld wr 5 (bs s) = w7 at *
        generalize grownCap wr s.length 0 5 = c7 at *
        clear hrow hbel
        go_wp2_with
          (at_builtin
           refine wp_appB rfl (.tmp 17) (.tmp 22) rfl w.heap.size _ (Ac.join (l.take 0)) rfl HO7.out _ _ _ s rfl hrd ?hbya ?hbasea ?_
           case hbya => omega
           case hbasea => exact hsz7
           intro A8 n8 c8 w8 ho8 hb8 hn8)
        go_roundw
        case rel => exact ⟨0 + 1, A8, n8, c8, by omega, by go_num, rfl, Lib.hid (by rw [HJ.out]; exact ho8), Lib.hid (HB7.out.trans hb8)⟩
        case measure => simp [intOf]; omega
      · have hi0 : (0 : Int) < (i : Int) := by omega
        rw [if_pos (by omega)] at hj hjl
        rw [List.length_append, List.length_append, List.length_singleton] at hjl
        have HJ := Lib.hid hj
        clear hj
        go_upto_region 7 with
          (at_builtin
           refine wp_appB rfl (.tmp 14) (.tmp 15) rfl w.heap.size (.slice A5 n5 c5) (Ac.join (l.take i)) rfl (HO.out.step (alloc_below _ _)) _ 1 1 [10] rfl (one_rdB _ _ _) ?hby ?hbase ?_
           case hby => omega
           case hbase => exact Nat.le_trans hszr (by simp)
           intro A6 n6 c6 w6 ho6 hb6 hn6)
        have hbe := (bnext hbr (alloc_below wr (.cells #[.int .u8 ((10 : UInt8).toNat)] 5)) hbr.size).trans hb6
        obtain ⟨g2, o2, s2, e2, hg2, HS2, hc2⟩ := (hl.step hbe).at_ hlt
        injection e2 with e2
        injection e2 with e2 e3
        subst e2 e3
        obtain rfl : s2 = s := by have h9 := HS2.out; rw [HS.out] at h9; exact (Option.some.inj h9).symm
        replace hbr := hbe
        replace hszr : w.heap.size ≤ w6.heap.size := hbe.size
        clear hc HS hbe hb6 hn6
        have hcv := conv_sb s2 w6
        have hrow := bytesWorld_row w6 5 s2
        have hbel := bytesWorld_below w6 5 (bs s2)
        have hrd := hrow.rd (by rw [Lib.bytesWorld_size]; omega)
        have HO7 := Lib.hid (ho6.step hbel)
        have hsz7 := Nat.le_trans hszr hbel.size
        have HB7 := Lib.hid (bnext hbr hbel hszr)
        generalize Lib.bytesWorld w6 5 (bs s2) = w7 at *
        generalize grownCap w6 s2.length 0 5 = c7 at *
        clear hrow hbel
        go_wp2_with
          (at_builtin
           refine wp_appB rfl (.tmp 17) (.tmp 22) rfl w.heap.size _ (Ac.join (l.take i) ++ [10]) rfl HO7.out _ _ _ s2 rfl hrd ?hbyb ?hbaseb ?_
           case hbyb => rw [List.length_append, List.length_singleton]; omega
           case hbaseb => exact hsz7
           intro A8 n8 c8 w8 ho8 hb8 hn8)
        go_roundw
        case rel => exact ⟨i + 1, A8, n8, c8, by omega, by go_num, rfl, Lib.hid (by rw [HJ.out]; exact ho8), Lib.hid (HB7.out.trans hb8)⟩
        case measure => simp [intOf]; omega
    · obtain rfl : i = n := by omega
      have hcv := conv_bs HO.out.rd c5
      rw [HFin.out] at hcv
      go_wp2
      go_ret
      exact ⟨rfl, HB.out⟩
end Go.Proofs.YtgkphjbcaidcpaaGreatDoor
set_option linter.unusedVariables false
set_option linter.unusedSimpArgs false
namespace Go.Proofs.YtgkphjbcaidcpaaGreatDoor
open Go.RowKit

set_option maxRecDepth 100000
namespace Ac
def hosts1 : T := [97, 99, 108, 32, 120, 32, 104, 111, 115, 116, 32, 46]
def hosts2 : T := [97, 108, 108, 111, 119, 32, 120]
def hostsL (h : T) : LS := ⟨[⟨[120], hostT, [46 :: h]⟩], [⟨2, true, [[120]]⟩]⟩
theorem words_hosts (h : T) (hb : ∀ b ∈ h, blk b = false) : words (hosts1 ++ h) = [aclT, [120], hostT, 46 :: h] := by
  have e : words (hosts1 ++ h) = aclT :: [120] :: hostT :: wordsA [46] h := rfl
  have e2 := wordsA_skip h hb [46] []
  rw [List.append_nil] at e2
  rw [e, e2]
  rfl
theorem line_hosts (h : T) : line LS.nil 1 [aclT, [120], hostT, 46 :: h] = if good hostT (46 :: h) = true then some ⟨[⟨[120], hostT, [46 :: h]⟩], []⟩ else none := by
  rw [line_acl rfl]
  by_cases hg : good hostT (46 :: h) = true
  · rw [if_pos hg, define_new (by decide) rfl (by simp [hg])]
    rfl
  · rw [if_neg hg, define_all (by simp at hg; simp [hg])]
theorem parse_hosts (h : T) (hb : ∀ b ∈ h, blk b = false) (h10 : ∀ b ∈ h, b ≠ 10) : parse (hosts1 ++ h ++ 10 :: hosts2) = if good hostT (46 :: h) = true then (hostsL h, 0, 0) else (LS.nil, 1, 210) := by
  have hs : Ur.splitc 10 (hosts1 ++ h ++ 10 :: hosts2) = [hosts1 ++ h, hosts2] := by
    have hc1 : ∀ b ∈ hosts1, b ≠ 10 := by decide
    rw [Ur.splitc_of (fun b hb => by
      rcases List.mem_append.1 hb with h1 | h1
      · exact hc1 b h1
      · exact h10 b h1)]
    rw [Ur.splitc_one (by decide)]
  unfold parse parseLs
  rw [hs, if_neg (by simp)]
  have hw := words_hosts h hb
  by_cases hg : good hostT (46 :: h) = true
  · have h1 := line_hosts h
    rw [if_pos hg] at h1
    rw [if_pos hg, parseF_next (by rw [hw]; rfl) (by rw [hw]; exact h1)]
    rw [parseF_next (L' := hostsL h) rfl rfl]
    rfl
  · have h1 := line_hosts h
    rw [if_neg hg] at h1
    rw [if_neg hg, parseF_bad (by rw [hw]; rfl) (by rw [hw]; exact h1)]
theorem decide_hosts (h : T) (a : Ask) (hh : holds hostT (46 :: h) a = true) : decide_ (hostsL h) a = (true, 2) := by
  have e : ruleM (hostsL h) ⟨2, true, [[120]]⟩ a = true := by
    unfold ruleM
    have : named (hostsL h) (bare [120]) a = true := by
      rw [named_of (k := 0) (e := ⟨[120], hostT, [46 :: h]⟩) rfl rfl]
      unfold elH
      simp [hh]
    simp only [List.all_cons, List.all_nil, this]
    rfl
  unfold decide_
  rw [show (hostsL h).rus = [⟨2, true, [[120]]⟩] from rfl, List.find?_cons_of_pos (p := fun r => ruleM (hostsL h) r a) e]
theorem low46 : low 46 = 46 := by decide
theorem fold46 (h : T) : fold (46 :: h) = 46 :: fold h := by unfold fold; rw [List.map_cons, low46]
theorem hosts_eq (h : T) (a : Ask) (hh : fold a.host = fold h) : holds hostT (46 :: h) a = true := by
  rw [holds_suf (by rw [fold46]; rfl), fold46, hh]
  simp
theorem hosts_suf (h x : T) (a : Ask) (hh : a.host = x ++ 46 :: h) : holds hostT (46 :: h) a = true := by
  rw [holds_suf (by rw [fold46]; rfl), hh]
  have e : fold (x ++ 46 :: h) = fold x ++ fold (46 :: h) := by unfold fold; rw [List.map_append]
  have e2 : sufB (fold (46 :: h)) (fold (x ++ 46 :: h)) = true := by
    rw [e]; unfold sufB
    simp
  rw [e2, Bool.or_true]
theorem low_low (b : UInt8) : low (low b) = low b := by
  by_cases h : 65 ≤ b.toNat ∧ b.toNat ≤ 90
  · have := low_yes h.1 h.2
    rw [low_no (c := low b) (by omega)]
  · rw [low_no h, low_no h]
theorem fold_fold2 (h : T) : fold (fold h) = fold h := by
  unfold fold
  rw [List.map_map]
  exact List.map_congr_left fun b _ => low_low b
end Ac
/-- The law's ask in its box, while its host turns. -/
structure HSt (w w3 W : World) (s2 : Nat) (a : Ac.Ask) (z : ByteArray) : Prop where
  row : W.heap[w.heap.size]? = some (.cells #[.int .i64 a.src, .string z, .int .i64 a.port, .string (bs a.meth), .string (bs a.path), .int .i64 a.now] 37 (0, 0))
  st : ∀ k, s2 ≤ k → k < w3.heap.size → W.heap[k]? = w3.heap[k]?
  big : w3.heap.size ≤ W.heap.size
  low : w.heap.size < s2
  mx : 0 < w.heap.size
  ml : MaxL W
  bl : Below w.heap.size w W
theorem HSt.set {w w3 W : World} {s2 : Nat} {a : Ac.Ask} {z : ByteArray} (h : HSt w w3 W s2 a z) (z' : ByteArray) : HSt w w3 (W.setCell ⟨w.heap.size, 1, none⟩ (.string z')) s2 a z' := by
  have hgs := grown_set W w.heap.size 1 (.string z')
  have ho : ∀ k, k ≠ w.heap.size → (W.setCell ⟨w.heap.size, 1, none⟩ (.string z')).heap[k]? = W.heap[k]? := fun k hk => heap_setCell_other W ⟨w.heap.size, 1, none⟩ k _ hk
  have hlow := h.low
  have hmx := h.mx
  refine ⟨by rw [heap_setCell_same W w.heap.size 1 _ _ _ h.row]; rfl, fun k h1 h2 => (ho k (by omega)).trans (h.st k h1 h2), Nat.le_trans h.big hgs.size, h.low, h.mx, ?_, h.bl.grown hgs h.bl.size (fun k e => by cases e; exact Nat.le_refl _)⟩
  obtain ⟨m, hm⟩ := h.ml
  exact ⟨m, (World.cell?_of_block (w := W) (ho 0 (by omega))).trans hm⟩
theorem HSt.step {w w3 W W' : World} {s2 : Nat} {a : Ac.Ask} {z : ByteArray} (h : HSt w w3 W s2 a z) (hb : Below W.heap.size W W') : HSt w w3 W' s2 a z :=
  ⟨(hb.block _ (Array.getElem?_eq_some_iff.1 h.row).1).trans h.row, fun k h1 h2 => (hb.block k (Nat.lt_of_lt_of_le h2 h.big)).trans (h.st k h1 h2), Nat.le_trans h.big hb.size, h.low, h.mx, maxl_b h.ml hb, bnext h.bl hb h.bl.size⟩
theorem HSt.facts {w w3 W : World} {s2 : Nat} {a : Ac.Ask} {z : ByteArray} (h : HSt w w3 W s2 a z) : W.cell? ⟨w.heap.size, 0, none⟩ = some (.int .i64 a.src) ∧ W.cell? ⟨w.heap.size, 1, none⟩ = some (.string z) ∧ W.cell? ⟨w.heap.size, 2, none⟩ = some (.int .i64 a.port) ∧ W.cell? ⟨w.heap.size, 3, none⟩ = some (.string (bs a.meth)) ∧ W.cell? ⟨w.heap.size, 4, none⟩ = some (.string (bs a.path)) ∧ W.cell? ⟨w.heap.size, 5, none⟩ = some (.int .i64 a.now) ∧ W.frozen? ⟨w.heap.size, 1, none⟩ = false :=
  ⟨by rw [cell_of_row _ _ _ _ _ _ h.row]; rfl, by rw [cell_of_row _ _ _ _ _ _ h.row]; rfl, by rw [cell_of_row _ _ _ _ _ _ h.row]; rfl, by rw [cell_of_row _ _ _ _ _ _ h.row]; rfl, by rw [cell_of_row _ _ _ _ _ _ h.row]; rfl, by rw [cell_of_row _ _ _ _ _ _ h.row]; rfl, by simp only [World.frozen?, h.row]; rfl⟩
theorem dec_hosts (g : Nat) (h : List UInt8) (a : Ac.Ask) (y : List UInt8) (W : World) (hM : MaxL W) (ha : a.meth.length ≤ 1048576 ∧ a.path.length ≤ 1048576 ∧ -9223372036854775808 ≤ a.now ∧ a.now ≤ 9223372036854775807) (hy : y.length ≤ 4194304) (hh : Ac.holds Ac.hostT (46 :: h) ⟨a.src, y, a.port, a.meth, a.path, a.now⟩ = true) (hL : PList W g (Ac.hostsL h)) :
    Calls Tryz.prog 10 #[.pointer (some ⟨g, 0, none⟩), .agg #[.int .i64 a.src, .string (bs y), .int .i64 a.port, .string (bs a.meth), .string (bs a.path), .int .i64 a.now]] W fun e w' => e = .returned (.tuple #[.bool true, .int .i64 2]) ∧ Below W.heap.size W w' :=
  (decide_any g (Ac.hostsL h) ⟨a.src, y, a.port, a.meth, a.path, a.now⟩ W hM ⟨hy, by show a.meth.length ≤ _; omega, by show a.path.length ≤ _; omega, ha.2.2.1, ha.2.2.2⟩ hL).mono fun e w' hx => ⟨hx.1.trans (by unfold decV; rw [Ac.decide_hosts h _ hh]; rfl), hx.2⟩
end Go.Proofs.YtgkphjbcaidcpaaGreatDoor
