/- Joined texts: Seconds, the program's and the reference's; Walks of the table of a Cache-Control's arguments: has, number, patience; (every seat) The library's strings.Builder at this program: copyCheck, WriteString, WriteByte, String. The conditions stand in each line. -/
import Derived.Test.YtfhkgbimnfjfhaaGreatDoorM3
import Derived.Test.YtfhkgbimnfjfhaaGreatDoorM4
import Derived.Test.YtfhkgbimnfjfhaaGreatDoorM6
import Derived.Test.YtfhkgbimnfjfhaaGreatDoorM9
import Derived.Test.YtfhkgbimnfjfhaaGreatDoorM11
import Derived.Deep.LoopGhost
import Derived.Deep.Cut
import Derived.Deep.DeepCutAuto
import Derived.IntWalk
import Derived.Lib.Builder
import Derived.Lib.AppendStr
import Derived.Lib.UnsafeStr
import Derived.Laws.Externs
set_option linter.unusedVariables false
set_option linter.unusedSimpArgs false
namespace Go.Proofs.YtfhkgbimnfjfhaaGreatDoor
open Go.RowKit

set_option maxRecDepth 100000
theorem sec_no {s : List UInt8} (h : s = [] ∨ s.all Dt.isD = false) : Ctl.secL s = -1 := by unfold Ctl.secL; rw [if_pos h]
theorem sec_yes {s : List UInt8} (h0 : s ≠ []) (h : s.all Dt.isD = true) : Ctl.secL s = s.foldl Ctl.secF 0 := by unfold Ctl.secL; rw [if_neg (by simp [h0, h])]
/-- The number of the first k digits. -/
def secK (s : List UInt8) (k : Nat) : Int := (s.take k).foldl Ctl.secF 0
theorem secK_next {s : List UInt8} {k : Nat} (h : k < s.length) : secK s (k + 1) = Ctl.secF (secK s k) s[k] := by unfold secK; rw [take_snoc s k h, List.foldl_append]; rfl
theorem secF_min (v : Int) (c : UInt8) : Ctl.secF v c = min (v * 10 + ((c.toNat : Int) - 48)) 2147483648 := by unfold Ctl.secF; split <;> omega
theorem secK_bd {s : List UInt8} (h : s.all Dt.isD = true) : ∀ k, 0 ≤ secK s k ∧ secK s k ≤ 2147483648
  | 0 => by unfold secK; simp
  | k + 1 => by
    rcases Nat.lt_or_ge k s.length with hk | hk
    · rw [secK_next hk]
      exact Ctl.secF_bd (List.all_eq_true.1 h _ (List.getElem_mem hk)) (secK_bd h k).1
    · have e : secK s (k + 1) = secK s k := by unfold secK; rw [List.take_of_length_le (by omega), List.take_of_length_le hk]
      rw [e]; exact secK_bd h k
set_option maxHeartbeats 1000000 in
theorem sec_any (s : List UInt8) (w : World) (hs : s.length ≤ 4398046511104) :
    Calls Tryz.prog 38 #[.string (bs s)] w fun e w' => e = .returned (.int .i64 (Ctl.secL s)) ∧ Below w.heap.size w w' := by
  by_cases h0 : s = []
  · subst h0
    rw [show Ctl.secL [] = -1 from rfl]
    go_enter Tryz.func38, Tryz.ntmps38
    go_wp2
    go_ret
    exact ⟨rfl, Below.refl _ _⟩
  have hne := emp_no h0
  have HT := Lib.hid (trimD s)
  have hC := trimD_any s w hs
  generalize Lib.trimS s [48, 49, 50, 51, 52, 53, 54, 55, 56, 57] = T at *
  by_cases hd : s.all Dt.isD = true
  · obtain rfl : T = [] := HT.out.2 hd
    have HV := Lib.hid (sec_yes h0 hd)
    generalize Ctl.secL s = R at *
    have HB := Lib.hid (secK_bd hd)
    have HN := Lib.hid fun k (h : k < s.length) => (secK_next h).trans (secF_min _ _)
    have HD := Lib.hid fun k (h : k < s.length) => Dt.isD_bd (List.all_eq_true.1 hd _ (List.getElem_mem h))
    have HE : Hid (R = secK s s.length) := Lib.hid (by rw [HV.out]; unfold secK; rw [List.take_length])
    have hcv := conv_sb
    clear hd HT h0 HV
    go_enter Tryz.func38, Tryz.ntmps38
    go_wp2_with fail
    refine hC.mono ?_
    rintro e w1 ⟨rfl, hb1⟩
    clear hC
    go_upto_region 5 with fail
    clear hcv
    have hrow := bytesWorld_row w1 5 s
    have hbel := bytesWorld_below w1 5 (bs s)
    have hsz : w1.heap.size < (Lib.bytesWorld w1 5 (bs s)).heap.size := by rw [Lib.bytesWorld_size]; omega
    have hB2 := bnext hb1 hbel hb1.size
    generalize Lib.bytesWorld w1 5 (bs s) = w0 at *
    generalize grownCap w1 s.length 0 5 = cp at *
    have HRow := Lib.hid hrow
    clear hrow hbel hb1
    go_loopg [3, 16] s.length (fun q v iv wr => ∃ k : Nat, k ≤ s.length ∧ q + k = s.length ∧ iv = .int .i64 (k : Int) ∧ v = .int .i64 (secK s k) ∧ wr = w0)
    case atStart => exact ⟨0, by omega, by omega, rfl, rfl, rfl⟩
    case round =>
      obtain ⟨k, hk, hq, rfl, rfl, rfl⟩ := hrel
      obtain ⟨w0, rfl⟩ : ∃ w0, w0 = wr := ⟨_, rfl⟩
      by_cases hlt : k < s.length
      · have hcell := (HRow.out k _ (List.getElem?_eq_getElem hlt)).1
        simp only [Nat.zero_add] at hcell
        have hc255 := s[k].toNat_lt
        obtain ⟨g1, g2⟩ := HD.out k hlt
        obtain ⟨b1, b2⟩ := HB.out k
        have HNX := Lib.hid (HN.out k hlt)
        generalize secK s k = v at *
        clear HN HD HB HE
        go_wp2
        go_roundg (s.length - (k + 1))
        case measure => omega
        case rel => exact ⟨k + 1, by omega, by omega, by go_num, by first | (rw [HNX.out]; done) | (rw [HNX.out]; congr 1; omega), rfl⟩
      · obtain rfl : k = s.length := by omega
        clear HN HD HB
        go_wp2
        go_ret
        exact ⟨ret_int HE.out.symm, hB2⟩
  · have hT : T ≠ [] := fun h => hd (HT.out.1 h)
    have hTn := emp_no hT
    rw [sec_no (.inr (by simpa using hd))]
    clear hd HT hT h0
    go_enter Tryz.func38, Tryz.ntmps38
    go_wp2_with fail
    refine hC.mono ?_
    rintro e w1 ⟨rfl, hb1⟩
    clear hC
    go_wp2
    go_ret
    exact ⟨rfl, hb1⟩
set_option maxHeartbeats 1000000 in
theorem rsec_any (s : List UInt8) (w : World) (hs : s.length ≤ 4398046511104) :
    Calls Tryz.prog 40 #[.string (bs s)] w fun e w' => e = .returned (.int .i64 (Ctl.secL s)) ∧ w = w' := by
  have HNo := Lib.hid fun h => sec_no (s := s) h
  have HYe : Hid (s ≠ [] → s.all Dt.isD = true → Ctl.secL s = secK s s.length) := Lib.hid fun h0 h => by rw [sec_yes h0 h]; unfold secK; rw [List.take_length]
  generalize Ctl.secL s = R at *
  go_enter Tryz.func40, Tryz.ntmps40
  go_wp2
  go_loopg [3, 4] s.length (fun q v iv wr => ∃ (k : Nat) (x : Int), k ≤ s.length ∧ q + k = s.length ∧ iv = .int .i64 (k : Int) ∧ v = .int .i64 x ∧ 0 ≤ x ∧ x ≤ 2147483648 ∧ Hid ((s.take k).all Dt.isD = true ∧ x = secK s k) ∧ wr = w)
  case atStart => exact ⟨0, 0, by omega, by omega, rfl, rfl, by omega, by omega, Lib.hid ⟨by simp, rfl⟩, rfl⟩
  case round =>
    obtain ⟨k, x, hk, hq, rfl, rfl, hx0, hx1, HA, rfl⟩ := hrel
    by_cases hlt : k < s.length
    · have hc255 := s[k].toNat_lt
      cases hd : Dt.isD s[k] with
      | false =>
        have HR := Lib.hid (HNo.out (.inr (all_stop Dt.isD s k hlt hd)))
        have hno : s[k].toNat < 48 ∨ 57 < s[k].toNat := by
          unfold Dt.isD at hd
          simp at hd
          omega
        clear hd HA HNo HYe
        by_cases g0 : s[k].toNat < 48
        · go_wp2
          go_ret
          exact ⟨ret_int HR.out.symm, rfl⟩
        · have g3 : 57 < s[k].toNat := by omega
          go_wp2
          go_ret
          exact ⟨ret_int HR.out.symm, rfl⟩
      | true =>
        obtain ⟨g1, g2⟩ := Dt.isD_bd hd
        have g0 : ¬ s[k].toNat < 48 := by omega
        have g3 : ¬ 57 < s[k].toNat := by omega
        have hnx := secK_next hlt
        rw [← HA.out.2] at hnx
        unfold Ctl.secF at hnx
        have HAN : Hid ((s.take (k + 1)).all Dt.isD = true) := Lib.hid (by rw [all_snoc _ s k hlt, HA.out.1, hd]; rfl)
        have HNX := Lib.hid hnx
        clear hd HA hnx HNo HYe
        by_cases hbig : 2147483648 < x * 10 + (s[k].toNat : Int) - 48
        · go_wp2
          go_roundg (s.length - (k + 1))
          case measure => omega
          case rel => exact ⟨k + 1, 2147483648, by omega, by omega, by go_num, rfl, by omega, by omega, Lib.hid ⟨HAN.out, by rw [HNX.out, if_pos (by omega)]⟩, rfl⟩
        · have hb2 : 0 ≤ x * 10 + (s[k].toNat : Int) - 48 := by omega
          go_wp2
          go_roundg (s.length - (k + 1))
          case measure => omega
          case rel => exact ⟨k + 1, x * 10 + (s[k].toNat : Int) - 48, by omega, by omega, by go_num, by go_num, hb2, by omega, Lib.hid ⟨HAN.out, by rw [HNX.out, if_neg (by omega)]; omega⟩, rfl⟩
    · obtain rfl : k = s.length := by omega
      have hall := all_full Dt.isD s HA.out.1
      by_cases h0 : s = []
      · have HR := Lib.hid (HNo.out (.inl h0))
        have hem : s.isEmpty = true := by rw [h0]; rfl
        clear HNo HYe HA hall h0
        go_wp2
        go_ret
        exact ⟨ret_int HR.out.symm, rfl⟩
      · have hem := emp_no h0
        have HR : Hid (R = x) := Lib.hid (by rw [HYe.out h0 hall, HA.out.2])
        clear HNo HYe HA hall h0
        go_wp2
        go_ret
        exact ⟨ret_int HR.out.symm, rfl⟩
end Go.Proofs.YtfhkgbimnfjfhaaGreatDoor
set_option linter.unusedVariables false
set_option linter.unusedSimpArgs false
namespace Go.Proofs.YtfhkgbimnfjfhaaGreatDoor
open Go.RowKit

set_option maxRecDepth 100000
set_option maxHeartbeats 400000 in
theorem has1_any (g mb B n : Nat) (D : List Ctl.Dir) (s : List UInt8) (w : World) (h1 : w.cell? ⟨g, 0, none⟩ = some (.map (some mb))) (h : TabW w B mb n D) (hs : s.length ≤ 140737488355328) :
    Calls Tryz.prog 69 #[.string (bs s), .pointer (some ⟨g, 0, none⟩)] w fun e w' => e = .returned (.bool (Ctl.hasD D s)) ∧ Below w.heap.size w w' := by
  have hL := h.look (s := s) (by unfold maxLen; omega)
  unfold argV at hL
  clear h
  generalize Ctl.hasD D s = R at *
  generalize (Ctl.argAt D s).1 = a at *
  generalize (Ctl.argAt D s).2 = b at *
  go_enter Tryz.func69, Tryz.ntmps69
  go_wp2
  go_ret
  exact ⟨rfl, alloc_below _ _⟩
set_option maxHeartbeats 400000 in
theorem tabhas_any (mb B n : Nat) (D : List Ctl.Dir) (A : Option Addr) (k c : Nat) (l : List (List UInt8)) (w : World) (h : TabW w B mb n D) (hl : RdS w A k l) (hk : k ≤ 140737488355328) (hls : ∀ s ∈ l, s.length ≤ 140737488355328) :
    Calls Tryz.prog 47 #[.map (some mb), .slice A k c] w fun e w' => e = .returned (.bool (l.any (Ctl.hasD D))) ∧ Below w.heap.size w w' := by
  have hal := alloc_below w (.cells #[.map (some mb)] 72)
  have h2 := h.step hal
  have hl2 := hl.step hal
  have hc : (w.alloc (.cells #[.map (some mb)] 72)).cell? ⟨w.heap.size, 0, none⟩ = some (.map (some mb)) := by
    rw [Lib.cell_of_heap (heap_alloc_new w (.cells #[.map (some mb)] 72))]; rfl
  have hP : PredS (w.alloc (.cells #[.map (some mb)] 72)) 69 #[.pointer (some ⟨w.heap.size, 0, none⟩)] (Ctl.hasD D) :=
    ⟨fun args W => by kernel_rfl, fun W s hb hs => has1_any w.heap.size mb B n D s W ((World.cell?_of_block (hb.block _ (by simp))).trans hc) (h2.step hb) hs⟩
  have hC := containsFuncS_any A k c l _ _ _ _ _ (Below.refl _ _) hl2 hk hls hP
  clear h h2 hl hl2 hc hP
  generalize l.any (Ctl.hasD D) = R at *
  go_enter Tryz.func47, Tryz.ntmps47
  go_wp2_with fail
  refine hC.mono ?_
  rintro e w1 ⟨rfl, hb1⟩
  go_wp2
  go_ret
  exact ⟨rfl, bnext hal hb1 (by simp)⟩
set_option maxHeartbeats 400000 in
theorem number_any (mb B n : Nat) (D : List Ctl.Dir) (s : List UInt8) (w : World) (h : TabW w B mb n D) (hD : ∀ d ∈ D, d.1.length ≤ 1048576 ∧ d.2.1.length ≤ 1048576) (hs : s.length ≤ 140737488355328) :
    Calls Tryz.prog 48 #[.map (some mb), .string (bs s)] w fun e w' => e = .returned (.int .i64 (Ctl.numD D s)) ∧ Below w.heap.size w w' := by
  have hL := h.look (s := s) (by unfold maxLen; omega)
  have HA := Lib.hid (Ctl.argAt_len hD s)
  have HR := Lib.hid (Ctl.numD_argAt D s)
  unfold argV at hL
  clear h hD
  generalize Ctl.numD D s = R at *
  generalize (Ctl.argAt D s).1 = a at *
  generalize (Ctl.argAt D s).2 = b at *
  cases hh : Ctl.hasD D s with
  | false =>
    rw [hh] at HR hL
    have HV : Hid (R = -1) := Lib.hid (by rw [HR.out]; rfl)
    clear HR hh HA
    go_enter Tryz.func48, Tryz.ntmps48
    go_wp2
    go_ret
    exact ⟨ret_int HV.out.symm, alloc_below _ _⟩
  | true =>
    rw [hh] at HR hL
    have HV : Hid (max 0 (Ctl.secL a) = R) := Lib.hid (by rw [HR.out, if_pos rfl]; split <;> omega)
    clear HR hh
    go_enter Tryz.func48, Tryz.ntmps48
    go_wp2_with fail
    refine (sec_any a _ (by have := HA.out; omega)).mono ?_
    rintro e w1 ⟨rfl, hb1⟩
    go_wp2
    go_ret
    exact ⟨ret_int HV.out, bnext (alloc_below _ _) hb1 (by simp)⟩
set_option maxHeartbeats 400000 in
theorem patience_any (mb B n : Nat) (D : List Ctl.Dir) (w : World) (h : TabW w B mb n D) (hD : ∀ d ∈ D, d.1.length ≤ 1048576 ∧ d.2.1.length ≤ 1048576) :
    Calls Tryz.prog 49 #[.map (some mb)] w fun e w' => e = .returned (.int .i64 (Ctl.patD D Ctl.maxStaleN)) ∧ Below w.heap.size w w' := by
  have hL := h.look (s := Ctl.maxStaleN) (by unfold maxLen; simp)
  rw [show bs Ctl.maxStaleN = ⟨#[109, 97, 120, 45, 115, 116, 97, 108, 101]⟩ from rfl] at hL
  have HA := Lib.hid (Ctl.argAt_len hD Ctl.maxStaleN)
  have HR := Lib.hid (Ctl.patD_argAt D Ctl.maxStaleN)
  unfold argV at hL
  clear h hD
  generalize Ctl.patD D Ctl.maxStaleN = R at *
  generalize (Ctl.argAt D Ctl.maxStaleN).1 = a at *
  generalize (Ctl.argAt D Ctl.maxStaleN).2 = b at *
  cases hh : Ctl.hasD D Ctl.maxStaleN with
  | false =>
    rw [hh] at HR hL
    have HV : Hid (R = -1) := Lib.hid (by rw [HR.out]; rfl)
    clear HR hh HA
    go_enter Tryz.func49, Tryz.ntmps49
    go_wp2
    go_ret
    exact ⟨ret_int HV.out.symm, alloc_below _ _⟩
  | true =>
    rw [hh, if_pos rfl] at HR
    rw [hh] at hL
    cases b with
    | false =>
      have HV : Hid (R = 2147483648) := Lib.hid (by rw [HR.out]; rfl)
      clear HR hh HA
      go_enter Tryz.func49, Tryz.ntmps49
      go_wp2
      go_ret
      exact ⟨ret_int HV.out.symm, alloc_below _ _⟩
    | true =>
      have HV : Hid (Ctl.secL a = R) := Lib.hid (by rw [HR.out]; rfl)
      clear HR hh
      go_enter Tryz.func49, Tryz.ntmps49
      go_wp2_with fail
      refine (sec_any a _ (by have := HA.out; omega)).mono ?_
      rintro e w1 ⟨rfl, hb1⟩
      go_wp2
      go_ret
      exact ⟨ret_int HV.out, bnext (alloc_below _ _) hb1 (by simp)⟩
end Go.Proofs.YtfhkgbimnfjfhaaGreatDoor
set_option linter.unusedVariables false
set_option linter.unusedSimpArgs false
namespace Go.Proofs.YtfhkgbimnfjfhaaGreatDoor
open Go.RowKit

set_option maxRecDepth 100000
/-- Block b is a builder that holds these bytes. -/
abbrev IB (w : World) (B b : Nat) (l : List UInt8) : Prop := Lib.IsBuilder 119 5 B b (Lib.byteCells l) w
abbrev UB (w : World) (B b : Nat) (l : List UInt8) : Prop := Lib.BuilderAt 119 5 B b (.pointer (some ⟨b, 0, none⟩)) (Lib.byteCells l) w
theorem sizeB : (Tryz.prog.info? 119).map (·.size) = some 2 := by kernel_rfl
theorem liesB : liesAt Tryz.prog Tryz.prog.depth 119 (2 / Tryz.prog.cellsOf 119) 0 119 1 = true := by kernel_rfl
theorem infoU8 : (Tryz.prog.info? 5).map (fun i => (i.zero, i.size, i.bytes)) = some (some (.int .u8 0), 1, 1) := by kernel_rfl
set_option maxHeartbeats 1000000 in
theorem cc_used (b : Nat) (w : World) (h0 : w.cell? ⟨b, 0, none⟩ = some (.pointer (some ⟨b, 0, none⟩))) :
    Calls Tryz.prog 115 #[.pointer (some ⟨b, 0, none⟩)] w fun e w' => e = .returned (.tuple #[]) ∧ w' = w := by
  obtain ⟨j, hj, _⟩ := Option.map_eq_some_iff.1 sizeB
  go_enter Tryz.func115, Tryz.ntmps115
  go_wp2
  rw [Lib.run_neq_ptr_same w _ Tryz.underlying117 hj]
  go_wp2
  go_end0
  exact ⟨rfl, rfl⟩
set_option maxHeartbeats 1000000 in
theorem cc_fresh (b : Nat) (w : World) (h0 : w.cell? ⟨b, 0, none⟩ = some (.pointer none)) (hsh : w.shape? b = some (119, 2)) (hfz : w.frozen? ⟨b, 0, none⟩ = false) :
    Calls Tryz.prog 115 #[.pointer (some ⟨b, 0, none⟩)] w fun e w' => e = .returned (.tuple #[]) ∧ w' = w.setCell ⟨b, 0, none⟩ (.pointer (some ⟨b, 0, none⟩)) := by
  obtain ⟨j, hj, hjs⟩ := Option.map_eq_some_iff.1 sizeB
  go_enter Tryz.func115, Tryz.ntmps115
  go_wp2
  rw [Lib.run_to_unsafe w ⟨b, 0, none⟩ Tryz.underlying117 Tryz.underlying151 hj (by rw [hjs]; decide) hsh (Nat.zero_lt_succ 1)]
  simp only [Result.andThen]
  rw [Oper.upon_value]
  go_wp2
  rw [run_callFunc_extern Tryz.func130 (by kernel_rfl) (by kernel_rfl) (by kernel_rfl) (e := Extern.AbiNoEscape.same) (by kernel_rfl)]
  rw [Lib.run_noEscape]
  simp only [Result.andThen]
  rw [Oper.upon_value]
  go_wp2
  rw [Lib.run_from_unsafe w ⟨b, 0, none⟩ Tryz.underlying151 Tryz.underlying117 hj hsh liesB]
  simp only [Result.andThen]
  rw [Oper.upon_value]
  go_wp2
  go_end0
  exact ⟨rfl, rfl⟩
theorem cc_any (B b : Nat) (l : List UInt8) (w : World) (h : IB w B b l) :
    Calls Tryz.prog 115 #[.pointer (some ⟨b, 0, none⟩)] w fun e w' => e = .returned (.tuple #[]) ∧ UB w' B b l ∧ Below B w w' := by
  rcases h with h | h
  · refine (cc_fresh b w h.cell0 h.shape h.frozen0).mono ?_
    rintro e w' ⟨rfl, rfl⟩
    exact ⟨rfl, h.used _, (Below.refl B w).setCell (p := ⟨b, 0, none⟩) h.1 _⟩
  · refine (cc_used b w h.cell0).mono ?_
    rintro e w' ⟨rfl, rfl⟩
    exact ⟨rfl, h, Below.refl B _⟩
theorem str_cells (s l : List UInt8) : Lib.byteCells l ++ Lib.strCells (bs s) = Lib.byteCells (l ++ s) := by simp [Lib.byteCells, Lib.strCells, bs]
set_option maxHeartbeats 1000000 in
theorem ws_any (B b : Nat) (l s : List UInt8) (w : World) (h : IB w B b l) (hlen : l.length + s.length ≤ 140737488355328) (hBw : B ≤ w.heap.size) :
    Calls Tryz.prog 89 #[.pointer (some ⟨b, 0, none⟩), .string (bs s)] w fun e w' => e = .returned (.tuple #[.int .i64 s.length, .nilIface]) ∧ UB w' B b (l ++ s) ∧ Below B w w' := by
  obtain ⟨i0, hi, hz0, hz1, hz2⟩ := info_parts infoU8
  have hcl := Lib.byteCells_length l
  have HST := Lib.hid (str_cells s l)
  go_enter Tryz.func89, Tryz.ntmps89
  go_wp2_with fail
  refine (cc_any B b l _ h).mono ?_
  rintro e w1 ⟨rfl, h1, hb1⟩
  obtain ⟨hB, v, hbk, hown, hne⟩ := h1
  have c0 : w1.cell? ⟨b, 0, none⟩ = some (.pointer (some ⟨b, 0, none⟩)) := by rw [Lib.cell_of_heap hbk]; rfl
  have c1 : w1.cell? ⟨b, 1, none⟩ = some v := by rw [Lib.cell_of_heap hbk]; rfl
  go_wp2_with (at_builtin; refine Lib.wpList_append_own_string _ rfl _ _ 25 9 rfl B 5 i0 Tryz.underlying25 Tryz.underlying9 hi hz0 hz1 hz2 _ _ _ rfl hown (bs s) rfl ?c3 ?c4 ?c5 ?_)
  case c3 => rw [hcl]; simp; unfold maxLen; omega
  case c4 => rw [hcl]; simp; omega
  case c5 => have := hb1.size; omega
  intro v' w2 hown' hgrow _
  have hlt : b < w1.heap.size := by
    rcases Nat.lt_or_ge b w1.heap.size with h' | h'
    · exact h'
    · simp [Array.getElem?_eq_none h'] at hbk
  have hb2 : w2.heap[b]? = some (.cells #[.pointer (some ⟨b, 0, none⟩), v] 119 (0, 0)) := by
    rw [hgrow.block b hlt (fun e => hne e.symm)]
    exact hbk
  have d0 : w2.cell? ⟨b, 0, none⟩ = some (.pointer (some ⟨b, 0, none⟩)) := by rw [Lib.cell_of_heap hb2]; rfl
  have d1 : w2.cell? ⟨b, 1, none⟩ = some v := by rw [Lib.cell_of_heap hb2]; rfl
  have f1 : w2.frozen? ⟨b, 1, none⟩ = false := Lib.frozen_of_heap hb2 1
  rw [HST.out] at hown'
  have hown2 : w2.ownsRow B 5 1 v' (Lib.byteCells (l ++ s)).length (Lib.byteCells (l ++ s)) := by
    rw [Lib.byteCells_length, List.length_append]; exact hown'
  obtain ⟨ao, n', cap, rfl⟩ : ∃ ao n' cap, v' = .slice ao n' cap := by
    rcases hown'.2 with ⟨hv, _⟩ | ⟨g, cap, cur, hv, _⟩
    · exact ⟨_, _, _, hv⟩
    · exact ⟨_, _, _, hv⟩
  clear hcl
  go_wp2
  go_ret2
  refine ⟨rfl, ?_, ?_⟩
  · exact Lib.BuilderAt.put (T := 119) (e := 5) hB hb2 (bs' := Lib.byteCells (l ++ s)) hown2 (by decide)
  · exact (hb1.grown hgrow (by have := hb1.size; omega) (fun k hk => (hown.lt k hk).1)).setCell (p := ⟨b, 1, none⟩) hB _
set_option maxHeartbeats 1000000 in
theorem wb_any (B b : Nat) (l : List UInt8) (c : UInt8) (w : World) (h : IB w B b l) (hlen : l.length + 1 ≤ 140737488355328) (hBw : B ≤ w.heap.size) :
    Calls Tryz.prog 103 #[.pointer (some ⟨b, 0, none⟩), .int .u8 c.toNat] w fun e w' => e = .returned .nilIface ∧ UB w' B b (l ++ [c]) ∧ Below B w w' := by
  obtain ⟨i0, hi, hz0, hz1, hz2⟩ := info_parts infoU8
  have hcl := Lib.byteCells_length l
  have HST : Hid (Lib.byteCells l ++ [.int .u8 c.toNat] = Lib.byteCells (l ++ [c])) := Lib.hid (by simp [Lib.byteCells])
  go_enter Tryz.func103, Tryz.ntmps103
  go_wp2_with fail
  refine (cc_any B b l _ h).mono ?_
  rintro e w1 ⟨rfl, h1, hb1⟩
  obtain ⟨hB, v, hbk, hown, hne⟩ := h1
  have c0 : w1.cell? ⟨b, 0, none⟩ = some (.pointer (some ⟨b, 0, none⟩)) := by rw [Lib.cell_of_heap hbk]; rfl
  have c1 : w1.cell? ⟨b, 1, none⟩ = some v := by rw [Lib.cell_of_heap hbk]; rfl
  go_wp2_with (at_builtin; refine wpList_append_own _ rfl _ _ 25 rfl B 5 i0 (.int .u8 0) 1 1 Tryz.underlying25 hi hz0 hz1 hz2 rfl (by decide) _ _ _ rfl (hown.alloc _) ⟨w1.heap.size, 0, none⟩ 1 1 [.int .u8 c.toNat] rfl rfl ?c1 ?c2 ?c3 ?c4 ?c5 ?_)
  case c1 =>
    intro j u hj
    match j, hj with
    | 0, hj => simp at hj; subst hj; simp [Addr.add]
  case c2 => intro u hu; simp at hu; subst hu; rfl
  case c3 => rw [hcl]; unfold maxLen; omega
  case c4 => rw [hcl]; omega
  case c5 => have := hb1.size; simp; omega
  intro v' w2 hown' hgrow _
  have hlt : b < w1.heap.size := by
    rcases Nat.lt_or_ge b w1.heap.size with h' | h'
    · exact h'
    · simp [Array.getElem?_eq_none h'] at hbk
  have hb2 : w2.heap[b]? = some (.cells #[.pointer (some ⟨b, 0, none⟩), v] 119 (0, 0)) := by
    rw [hgrow.block b (by simp; omega) (fun e => hne e.symm), Lib.alloc_old _ _ _ hlt]
    exact hbk
  have d0 : w2.cell? ⟨b, 0, none⟩ = some (.pointer (some ⟨b, 0, none⟩)) := by rw [Lib.cell_of_heap hb2]; rfl
  have d1 : w2.cell? ⟨b, 1, none⟩ = some v := by rw [Lib.cell_of_heap hb2]; rfl
  have f1 : w2.frozen? ⟨b, 1, none⟩ = false := Lib.frozen_of_heap hb2 1
  rw [HST.out] at hown'
  have hown2 : w2.ownsRow B 5 1 v' (Lib.byteCells (l ++ [c])).length (Lib.byteCells (l ++ [c])) := by
    rw [Lib.byteCells_length, List.length_append]; exact hown'
  obtain ⟨ao, n', cap, rfl⟩ : ∃ ao n' cap, v' = .slice ao n' cap := by
    rcases hown'.2 with ⟨hv, _⟩ | ⟨g, cap, cur, hv, _⟩
    · exact ⟨_, _, _, hv⟩
    · exact ⟨_, _, _, hv⟩
  clear hcl
  go_wp2
  go_ret
  refine ⟨rfl, ?_, ?_⟩
  · exact Lib.BuilderAt.put (T := 119) (e := 5) hB hb2 (bs' := Lib.byteCells (l ++ [c])) hown2 (by decide)
  · exact (((hb1.alloc (by have := hb1.size; omega) _).grown hgrow (by have := hb1.size; simp; omega) (fun k hk => (hown.lt k hk).1))).setCell (p := ⟨b, 1, none⟩) hB _
theorem str_any (B b : Nat) (l : List UInt8) (w : World) (h : IB w B b l) (hBw : B ≤ w.heap.size) :
    Calls Tryz.prog 90 #[.pointer (some ⟨b, 0, none⟩)] w fun e w' => e = .returned (.string (bs l)) ∧ Below B w w' := Tryz.Builder_String_any B b l w h hBw
theorem UB.step {w w' : World} {B b : Nat} {l : List UInt8} (h : UB w B b l) (hb : Below w.heap.size w w') : UB w' B b l := by
  have hlt := Lib.BuilderAt.lt h
  obtain ⟨hB, v, h1, h2, h3⟩ := h
  exact ⟨hB, v, (hb.block _ hlt).trans h1, own_step h2 hb, h3⟩
theorem IB.step {w w' : World} {B b : Nat} {l : List UInt8} (h : IB w B b l) (hb : Below w.heap.size w w') : IB w' B b l := by
  rcases h with h | h
  · have hlt := Lib.BuilderAt.lt h
    obtain ⟨hB, v, h1, h2, h3⟩ := h
    exact .inl ⟨hB, v, (hb.block _ hlt).trans h1, own_step h2 hb, h3⟩
  · exact .inr (UB.step h hb)
end Go.Proofs.YtfhkgbimnfjfhaaGreatDoor
