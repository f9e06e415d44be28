/- Joined texts: A part of a whole response in plain Lean: the fields and the bytes that Apply answers; The reference's Lower: letters A to Z made small; The reference's Values: all values of a name; The reference's Get; Walks of the parts of a date's text: pad, clock, weekdays. The conditions stand in each line. -/
import Derived.Test.YtcaekfebnhedpaaGreatDoorChecked
import Derived.Test.YtcaekfebnhedpaaGreatDoorM1
import Derived.Test.YtcaekfebnhedpaaGreatDoorM2
import Derived.Test.YtcaekfebnhedpaaGreatDoorM3
import Derived.Test.YtcaekfebnhedpaaGreatDoorM4
import Derived.Test.YtcaekfebnhedpaaGreatDoorM9
import Derived.Test.YtcaekfebnhedpaaGreatDoorM14
import Derived.Test.YtcaekfebnhedpaaGreatDoorM15
import Derived.Test.YtcaekfebnhedpaaGreatDoorM16
import Derived.Test.YtcaekfebnhedpaaGreatDoorM18
import Derived.Test.YtcaekfebnhedpaaGreatDoorM19
import Derived.Deep.Cut
import Derived.Deep.DeepCutAuto
import Derived.Deep.RegionHeld3
import Derived.Below
import Derived.IntWalk
import Derived.Lib.AppendIntMem
set_option linter.unusedVariables false
set_option linter.unusedSimpArgs false
namespace Go.Proofs.YtcaekfebnhedpaaGreatDoor
open Go.RowKit

set_option maxRecDepth 100000
namespace Rg
abbrev rngP : List UInt8 := [82, 97, 110, 103, 101]
abbrev rngR : List UInt8 := [114, 97, 110, 103, 101]
abbrev irP : List UInt8 := [73, 102, 45, 82, 97, 110, 103, 101]
abbrev irR : List UInt8 := [105, 102, 45, 114, 97, 110, 103, 101]
abbrev clP : List UInt8 := [67, 111, 110, 116, 101, 110, 116, 45, 76, 101, 110, 103, 116, 104]
abbrev clR : List UInt8 := [99, 111, 110, 116, 101, 110, 116, 45, 108, 101, 110, 103, 116, 104]
abbrev ctP : List UInt8 := [67, 111, 110, 116, 101, 110, 116, 45, 84, 121, 112, 101]
abbrev ctR : List UInt8 := [99, 111, 110, 116, 101, 110, 116, 45, 116, 121, 112, 101]
abbrev crP : List UInt8 := [67, 111, 110, 116, 101, 110, 116, 45, 82, 97, 110, 103, 101]
abbrev crR : List UInt8 := [99, 111, 110, 116, 101, 110, 116, 45, 114, 97, 110, 103, 101]
abbrev partT : List UInt8 := [80, 97, 114, 116, 105, 97, 108, 32, 67, 111, 110, 116, 101, 110, 116]
abbrev unsatT : List UInt8 := [82, 97, 110, 103, 101, 32, 78, 111, 116, 32, 83, 97, 116, 105, 115, 102, 105, 97, 98, 108, 101]
abbrev bytT : List UInt8 := [98, 121, 116, 101, 115, 32]
abbrev starT : List UInt8 := [98, 121, 116, 101, 115, 32, 42, 47]
abbrev mulT : List UInt8 := [109, 117, 108, 116, 105, 112, 97, 114, 116, 47, 98, 121, 116, 101, 114, 97, 110, 103, 101, 115, 59, 32, 98, 111, 117, 110, 100, 97, 114, 121, 61]
abbrev ctT : List UInt8 := [67, 111, 110, 116, 101, 110, 116, 45, 84, 121, 112, 101, 58, 32]
abbrev crT : List UInt8 := [67, 111, 110, 116, 101, 110, 116, 45, 82, 97, 110, 103, 101, 58, 32]
def placeL (p : Sp) (size : Nat) : List UInt8 := bytT ++ Lib.decDigits p.1.toNat ++ [45] ++ Lib.decDigits p.2.toNat ++ [47] ++ Lib.decDigits size
def putF (l : List Fld) (n v : List UInt8) : List Fld := withoutF l [n] ++ [(n, v)]
/-- Does an If-Range hold for the response? -/
def holdsL (ask l : List Fld) : Bool := (valuesL ask irR).isEmpty || (sameR (Frs.getL ask irR) (Frs.getL l Val.etagN) true || (Frs.momO l Frs.lmN && (Frs.getL ask irR == Frs.getL l Frs.lmN)))
def pieceL (p : Sp) (b : List UInt8) : List UInt8 := (b.drop p.1.toNat).take (p.2.toNat + 1 - p.1.toNat)
/-- One part of several. -/
def partL (mark kind : List UInt8) (typed : Bool) (b : List UInt8) (p : Sp) : List UInt8 :=
  [13, 10, 45, 45] ++ mark ++ [13, 10] ++ (if typed = true then ctT ++ kind ++ [13, 10] else []) ++ (crT ++ placeL p b.length ++ [13, 10, 13, 10]) ++ pieceL p b
def endL (mark : List UInt8) : List UInt8 := [13, 10, 45, 45] ++ mark ++ [45, 45, 13, 10]
def partsL (mark kind : List UInt8) (typed : Bool) (b : List UInt8) (q : List Sp) : List UInt8 := (q.map (partL mark kind typed b)).flatten ++ endL mark
structure Ans where
  st : Int
  rs : List UInt8
  l : List Fld
  b : List UInt8
def keepA (st : Int) (rs : List UInt8) (l : List Fld) (b : List UInt8) : Ans := ⟨st, rs, l, b⟩
def unsatA (l : List Fld) (b : List UInt8) : Ans := ⟨416, unsatT, putF (withoutF l [clP, ctP]) crP (starT ++ Lib.decDigits b.length), []⟩
def oneA (l : List Fld) (b : List UInt8) (p : Sp) : Ans := ⟨206, partT, putF (withoutF l [clP]) crP (placeL p b.length), pieceL p b⟩
def manyA (l : List Fld) (b : List UInt8) (q : List Sp) : Ans :=
  ⟨206, partT, putF (withoutF l [clP, crP]) ctP (mulT ++ markT (markN b)), partsL (markT (markN b)) (Frs.getL l ctR) (!(valuesL l ctR).isEmpty) b q⟩
/-- Is the response handed on as it is? -/
def asIs (ask : List Fld) (st : Int) (l : List Fld) (b : List UInt8) : Prop := st ≠ 200 ∨ valuesL ask rngR = [] ∨ (parseL (Frs.getL ask rngR) b.length).2 = 190 ∨ holdsL ask l = false
noncomputable def applyL (ask : List Fld) (st : Int) (rs : List UInt8) (l : List Fld) (b : List UInt8) : Ans :=
  open Classical in
  if asIs ask st l b then keepA st rs l b
  else if (parseL (Frs.getL ask rngR) b.length).2 = 191 then unsatA l b
  else if h : (parseL (Frs.getL ask rngR) b.length).1.length = 1 then oneA l b ((parseL (Frs.getL ask rngR) b.length).1[0]'(by omega))
  else manyA l b (parseL (Frs.getL ask rngR) b.length).1
theorem withoutF_comp (l : List Fld) (a c : List (List UInt8)) : withoutF (withoutF l a) c = withoutF l (a ++ c) := by
  unfold withoutF
  rw [List.filter_filter]
  congr 1
  funext f
  rw [List.any_append]
  cases List.any a _ <;> cases List.any c _ <;> rfl
end Rg
end Go.Proofs.YtcaekfebnhedpaaGreatDoor
set_option linter.unusedVariables false
set_option linter.unusedSimpArgs false
namespace Go.Proofs.YtcaekfebnhedpaaGreatDoor
open Go.RowKit

set_option maxHeartbeats 400000 in
theorem lower_any (s : List UInt8) (w : World) (hs : s.length ≤ 140737488355328) :
    Calls Tryz.prog 32 #[.string (bs s)] w fun e w' => e = .returned (.string (bs (fold s))) ∧ Below w.heap.size w w' := by
  have HE : Hid ((s.take s.length).map low = fold s) := Lib.hid (by rw [List.take_length]; rfl)
  go_enter Tryz.func32, Tryz.ntmps32
  go_upto_region 2 with fail
  have hm := OwnB.made w
  have hbm := alloc_below w (.cells #[] 5)
  go_wp2
  go_loopw [3, 4] (fun v t wr => ∃ (k : Nat) (A : Option Addr) (n c : Nat), k ≤ s.length ∧ t = .int .i64 k ∧ v = .slice A n c ∧ OwnB wr w.heap.size (.slice A n c) ((s.take k).map low) ∧ Below w.heap.size w wr) (fun _ t _ => s.length - (intOf t).toNat)
  case atStart => exact ⟨0, _, _, _, by omega, rfl, rfl, hm, hbm⟩
  case round =>
    obtain ⟨k, A, n, c, hk, rfl, rfl, hown, hbr⟩ := hrel
    clear hm hbm
    by_cases hlt : k < s.length
    · have HT : Hid ((s.take (k + 1)).map low = (s.take k).map low ++ [low s[k]]) := Lib.hid (by rw [take_snoc s k hlt, List.map_append]; rfl)
      have hc255 : (s[k].toNat : Int) ≤ 255 := by have := s[k].toNat_lt; omega
      have hlk : ((s.take k).map low).length = k := by simp; omega
      have HLK := Lib.hid hlk
      clear hlk
      by_cases hup : 65 ≤ s[k].toNat ∧ s[k].toNat ≤ 90
      · obtain ⟨hu1, hu2⟩ := hup
        have HV : Hid ((s[k].toNat : Int) + 32 = ((low s[k]).toNat : Int)) := Lib.hid (by rw [low_yes hu1 hu2]; rfl)
        go_upto_region 8 with fail
        rw [HV.out]
        generalize low s[k] = b at *
        go_wp2_with
          (at_builtin
           refine wp_appB rfl (.tmp 24) (.tmp 26) rfl w.heap.size (.slice A n c) _ rfl (hown.step (alloc_below _ _)) _ 1 1 [b] rfl (one_rdB _ _ _) ?hby ?hbase ?_
           case hby => rw [HLK.out]; omega
           case hbase => have := hbr.size; simp; omega
           intro A1 n1 c1 w1 hown1 hb1 hn1)
        go_roundw
        case rel => exact ⟨k + 1, A1, n1, c1, by omega, by go_num, rfl, by rw [HT.out]; exact hown1, (bnext hbr (alloc_below _ _) hbr.size).trans hb1⟩
        case measure => simp [intOf]; omega
      · have HV : Hid (s[k] = low s[k]) := Lib.hid (low_no hup).symm
        go_upto_region 8 with fail
        all_goals
          rw [HV.out]
          generalize low s[k] = b at *
          go_wp2_with
            (at_builtin
             refine wp_appB rfl (.tmp 24) (.tmp 26) rfl w.heap.size (.slice A n c) _ rfl (hown.step (alloc_below _ _)) _ 1 1 [b] rfl (one_rdB _ _ _) ?hby ?hbase ?_
             case hby => rw [HLK.out]; omega
             case hbase => have := hbr.size; simp; omega
             intro A1 n1 c1 w1 hown1 hb1 hn1)
          go_roundw
          case rel => exact ⟨k + 1, A1, n1, c1, by omega, by go_num, rfl, by rw [HT.out]; exact hown1, (bnext hbr (alloc_below _ _) hbr.size).trans hb1⟩
          case measure => simp [intOf]; omega
    · obtain rfl : k = s.length := by omega
      have hcb := conv_bs (w := wr) (A := A) (n := n) (l := fold s) (by rw [← HE.out]; exact hown.rd) c
      go_wp2
      go_ret
      exact ⟨rfl, hbr⟩
end Go.Proofs.YtcaekfebnhedpaaGreatDoor
set_option linter.unusedVariables false
set_option linter.unusedSimpArgs false
namespace Go.Proofs.YtcaekfebnhedpaaGreatDoor
open Go.RowKit

set_option maxHeartbeats 1000000 in
theorem valuesR_own (A : Option Addr) (n c : Nat) (l : List Fld) (name : List UInt8) (w : World) (hl : RdF w A n l) (hn : n * 32 ≤ 140737488355328) (hls : FlenOK l) (hnm : name.length ≤ 140737488355328) :
    Calls Tryz.prog 67 #[.slice A n c, .string (bs name)] w fun e w' => ∃ A' n' c', e = .returned (.slice A' n' c') ∧ OwnS w' w.heap.size (.slice A' n' c') (valuesL l name) ∧ Below w.heap.size w w' := by
  have HF : Hid (valuesL (l.take n) name = valuesL l name) := Lib.hid (by rw [List.take_of_length_le (by rw [hl.1]; exact Nat.le_refl _)])
  go_enter Tryz.func67, Tryz.ntmps67
  go_upto_region 2 with fail
  have hm := OwnS.made w
  have hbm := alloc_below w (.cells #[] 9)
  go_wp2
  go_loopw [5, 6] (fun v t wr => ∃ (k : Nat) (A' : Option Addr) (n' c' : Nat), k ≤ n ∧ t = .int .i64 k ∧ v = .slice A' n' c' ∧ OwnS wr w.heap.size (.slice A' n' c') (valuesL (l.take k) name) ∧ Below w.heap.size w wr) (fun _ t _ => n - (intOf t).toNat)
  case atStart => exact ⟨0, _, _, _, by omega, rfl, rfl, hm, hbm⟩
  case round =>
    obtain ⟨k, A', n', c', hk, rfl, rfl, hown, hbr⟩ := hrel
    clear hm hbm
    by_cases hlt : k < n
    · obtain ⟨g, o, nm, vl, rfl, hg, HX, hc1, hc2⟩ := (hl.step hbr).at_ hlt
      have hsl := hls _ (mem_of_get? HX.out)
      have hsl1 : nm.length ≤ 140737488355328 := hsl.1
      clear hsl
      have HS := Lib.hid (values_snoc (name := name) HX.out)
      have HL : Hid ((valuesL (l.take k) name).length ≤ k) := Lib.hid (by have := values_le (l.take k) name; simp at this; omega)
      clear hl hls
      go_wp2_with fail
      refine (lower_any nm _ hsl1).mono ?_
      rintro e w2 ⟨rfl, hb2⟩
      have hv2 : w2.cell? ⟨g, o + k * 2 + 1, none⟩ = some (.string (bs vl)) := (hb2.cell (p := ⟨g, o + k * 2 + 1, none⟩) hg).trans hc2
      go_wp2_with fail
      refine (lower_any name _ hnm).mono ?_
      rintro e w3 ⟨rfl, hb3⟩
      have hg2 : g < w2.heap.size := Nat.lt_of_lt_of_le hg hb2.size
      have hv3 : w3.cell? ⟨g, o + k * 2 + 1, none⟩ = some (.string (bs vl)) := (hb3.cell (p := ⟨g, o + k * 2 + 1, none⟩) hg2).trans hv2
      have hown2 := (hown.step hb2).step hb3
      have hbr1 := bnext hbr hb2 hbr.size
      have hbr2 := bnext hbr1 hb3 hbr1.size
      clear hown hbr hbr1 hb2 hb3 hc1 hc2 hv2
      cases hpv : isB (nm, vl) name
      · have HPV := Lib.hid hpv
        unfold isB at hpv
        go_wp2
        go_roundw
        case rel => exact ⟨k + 1, A', n', c', by omega, by go_num, rfl, by rw [HS.out]; simp only [HPV.out, Bool.false_eq_true, if_false, List.append_nil]; exact hown2, hbr2⟩
        case measure => simp [intOf]; omega
      · have HPV := Lib.hid hpv
        unfold isB at hpv
        go_wp2_with
          (at_builtin
           refine wp_appS rfl (.tmp 23) (.tmp 29) rfl w.heap.size (.slice A' n' c') _ rfl (hown2.step (alloc_below _ _)) _ 1 1 [vl] rfl ?hr ?hby ?hbase ?_
           case hr => exact one_rdS' _ _ _ _ (by simp)
           case hby => have := HL.out; omega
           case hbase => have := hbr2.size; simp; omega
           intro A3 n3 c3 w3 hown3 hb3 hn3)
        go_roundw
        case rel => exact ⟨k + 1, A3, n3, c3, by omega, by go_num, rfl, by rw [HS.out]; simp only [HPV.out, if_true]; exact hown3, (bnext hbr2 (alloc_below _ _) hbr2.size).trans hb3⟩
        case measure => simp [intOf]; omega
    · obtain rfl : k = n := by omega
      go_wp2
      go_ret
      exact ⟨A', n', c', rfl, by rw [← HF.out]; exact hown, hbr⟩
end Go.Proofs.YtcaekfebnhedpaaGreatDoor
set_option linter.unusedVariables false
set_option linter.unusedSimpArgs false
namespace Go.Proofs.YtcaekfebnhedpaaGreatDoor
open Go.RowKit

set_option maxRecDepth 100000
theorem ret_tup {a b : Value} (h : a = b) : Ending.returned a = .returned b := by rw [h]
theorem join_snocQ {V : List (List UInt8)} {sep : List UInt8} {k : Nat} {x : List UInt8} (h : V[k]? = some x) : Lib.join (V.take (k + 1)) sep = (if k = 0 then [] else Lib.join (V.take k) sep ++ sep) ++ x := by
  cases V with
  | nil => simp at h
  | cons y r =>
    cases k with
    | zero =>
      simp at h; subst h
      simp [Lib.join_one]
    | succ k =>
      rw [List.take_succ_cons, List.take_succ_cons, Lib.join_cons, Lib.join_cons, Lib.joinTail_take_succ sep r k x (by simpa using h), if_neg (by omega)]
      simp [List.append_assoc]
set_option maxHeartbeats 1000000 in
theorem getR_anyM (M : Nat) (A : Option Addr) (n c : Nat) (l : List Fld) (name : List UInt8) (w : World) (hl : RdF w A n l) (hn : n ≤ 1048576) (hls : FlenOK l) (hvv : ∀ v ∈ valuesL l name, v.length ≤ M) (hM : n * (2 + M) ≤ 17592186044416) (hnm : name.length ≤ 1048576) :
    Calls Tryz.prog 43 #[.slice A n c, .string (bs name)] w fun e w' => e = .returned (.tuple #[.string (bs (Lib.join (valuesL l name) [44, 32])), .bool (!(valuesL l name).isEmpty)]) ∧ Below w.heap.size w w' := by
  have HV : Hid (∀ v ∈ valuesL l name, v.length ≤ M) := Lib.hid hvv
  have HVl : Hid ((valuesL l name).length ≤ l.length) := Lib.hid (values_le l name)
  have HJ : Hid (∀ V, V = valuesL l name → Value.tuple #[.string (bs (Lib.join V [44, 32])), .bool (!V.isEmpty)] = .tuple #[.string (bs (Lib.join (valuesL l name) [44, 32])), .bool (!(valuesL l name).isEmpty)]) := Lib.hid fun V h => by rw [h]
  have hln := hl.1
  generalize Value.tuple #[.string (bs (Lib.join (valuesL l name) [44, 32])), .bool (!(valuesL l name).isEmpty)] = R at *
  go_enter Tryz.func43, Tryz.ntmps43
  go_wp2_with fail
  refine (valuesR_own A n c l name w hl (by omega) hls (by omega)).mono ?_
  rintro e w1 ⟨A1, n1, c1, rfl, hS, hb1⟩
  generalize valuesL l name = V at *
  have hrd := hS.rd
  have hnl : n1 ≤ 1048576 := by have := HVl.out; rw [hrd.1] at this; omega
  have hnv : n1 ≤ n := by have := HVl.out; rw [hrd.1] at this; omega
  have HJ2 := Lib.hid (HJ.out V rfl)
  have HE : Hid ((!V.isEmpty) = decide (0 < n1)) := Lib.hid (by
    rw [← hrd.1]
    cases V with
    | nil => rfl
    | cons x r => simp)
  have HL : Hid (∀ k, (Lib.join (V.take k) [44, 32]).length ≤ 17592186044416) := Lib.hid fun k => by
    refine Nat.le_trans (join_len [44, 32] M (V.take k) (fun x hx => HV.out x (List.mem_of_mem_take hx))) ?_
    have h1 : (V.take k).length ≤ n := by rw [List.length_take, hrd.1]; omega
    exact Nat.le_trans (Nat.mul_le_mul h1 (by simp)) hM
  have HVM : Hid (∀ x ∈ V, x.length ≤ 17592186044416) := Lib.hid fun x hx => by
    have h1 := HV.out x hx
    have h2 : 1 ≤ n := by
      have h0 : 0 < V.length := List.length_pos_of_mem hx
      have := hrd.1
      omega
    have h3 : 1 * (2 + M) ≤ n * (2 + M) := Nat.mul_le_mul h2 (Nat.le_refl _)
    omega
  have HT : Hid (V.take n1 = V) := Lib.hid (List.take_of_length_le (by rw [hrd.1]; exact Nat.le_refl _))
  have HV' := HV
  clear hS hl hls HJ HVl hln
  go_wp2
  go_loop [7, 8] (fun v t => ∃ k : Nat, k ≤ n1 ∧ t = .int .i64 k ∧ v = .string (bs (Lib.join (V.take k) [44, 32]))) (fun _ t => n1 - (intOf t).toNat)
  case atStart => exact ⟨0, by omega, rfl, rfl⟩
  case round =>
    obtain ⟨k, hk, rfl, rfl⟩ := hrel
    by_cases hlt : k < n1
    · obtain ⟨g, o, x, rfl, hg, HX, hc1⟩ := hrd.at_ hlt
      have HS := Lib.hid (join_snocQ (sep := [44, 32]) HX.out)
      have hx1 : x.length ≤ 17592186044416 := HVM.out x (mem_of_get? HX.out)
      have hx2 := HL.out k
      have hx3 := HL.out (k + 1)
      have HJ0 : Hid (k = 0 → Lib.join (List.take k V) [44, 32] = []) := Lib.hid (fun h => by subst h; rfl)
      generalize Lib.join (List.take k V) [44, 32] = J at *
      by_cases h0 : k = 0
      · subst h0
        simp only [Nat.add_zero] at hc1
        go_wp2
        go_round
        case rel => exact ⟨1, by omega, rfl, by rw [HS.out, HJ0.out rfl]; rfl⟩
        case measure => simp [intOf]; omega
      · have hk0 : 0 < k := by omega
        go_wp2
        go_round
        case rel => exact ⟨k + 1, by omega, by go_num, by rw [HS.out, if_neg h0, ← bs_append, ← bs_append]; rfl⟩
        case measure => simp [intOf]; omega
    · obtain rfl : k = n1 := by omega
      go_wp2
      go_ret2
      exact ⟨by rw [← HJ2.out, HE.out, HT.out]; rfl, hb1⟩
theorem getR_any (A : Option Addr) (n c : Nat) (l : List Fld) (name : List UInt8) (w : World) (hl : RdF w A n l) (hn : n ≤ 1048576) (hls : FlenS l) (hnm : name.length ≤ 1048576) :
    Calls Tryz.prog 43 #[.slice A n c, .string (bs name)] w fun e w' => e = .returned (.tuple #[.string (bs (Lib.join (valuesL l name) [44, 32])), .bool (!(valuesL l name).isEmpty)]) ∧ Below w.heap.size w w' :=
  getR_anyM 1048576 A n c l name w hl hn hls.ok (fun v hv => values_each hls hv) (Nat.le_trans (Nat.mul_le_mul hn (Nat.le_refl _)) (by omega)) hnm
end Go.Proofs.YtcaekfebnhedpaaGreatDoor
set_option linter.unusedVariables false
set_option linter.unusedSimpArgs false
namespace Go.Proofs.YtcaekfebnhedpaaGreatDoor
open Go.RowKit

theorem pad2_small {k : Nat} (h : k < 10) : [48] ++ Lib.decDigits k = Dt.pad2 (k : Int) := by
  rw [Lib.decDigits_one h]
  unfold Dt.pad2 Dt.dgt
  have e1 : (((k : Int) / 10) % 10).toNat = 0 := by omega
  have e2 : ((k : Int) % 10).toNat = k := by omega
  rw [e1, e2]; rfl
theorem pad2_big {k : Nat} (h1 : ¬ k < 10) (h : k < 100) : Lib.decDigits k = Dt.pad2 (k : Int) := by
  rw [Lib.decDigits_two h1 h]
  unfold Dt.pad2 Dt.dgt
  have e1 : (((k : Int) / 10) % 10).toNat = k / 10 := by omega
  have e2 : ((k : Int) % 10).toNat = k % 10 := by omega
  rw [e1, e2]
theorem dec_four {k : Nat} (h1 : 1000 ≤ k) (h : k < 10000) : Lib.decDigits k = Dt.pad4 (k : Int) := by
  rw [Lib.decDigits, dif_neg (by omega), Lib.decDigits, dif_neg (by omega), Lib.decDigits_two (by omega) (by omega)]
  unfold Dt.pad4 Dt.dgt
  have e1 : (((k : Int) / 1000) % 10).toNat = k / 10 / 10 / 10 := by omega
  have e2 : (((k : Int) / 100) % 10).toNat = k / 10 / 10 % 10 := by omega
  have e3 : (((k : Int) / 10) % 10).toNat = k / 10 % 10 := by omega
  have e4 : ((k : Int) % 10).toNat = k % 10 := by omega
  rw [e1, e2, e3, e4]; rfl
theorem rep_one (w : World) : Calls Tryz.prog 148 #[.string ⟨#[48]⟩, .int .i64 1] w fun e w' => e = .returned (.string (bs [48])) ∧ w = w' := (Tryz.strings_Repeat_one ⟨#[48]⟩ w).mono fun _ _ h => ⟨h.1, h.2.symm⟩
theorem rep_zero (w : World) : Calls Tryz.prog 148 #[.string ⟨#[48]⟩, .int .i64 0] w fun e w' => e = .returned (.string (bs [])) ∧ w = w' := (Tryz.strings_Repeat_zero ⟨#[48]⟩ w).mono fun _ _ h => ⟨h.1, h.2.symm⟩
abbrev Tab (w : World) : Prop := Lib.TabIs Tryz.prog w "internal/strconv.uint64pow10" .u64 Lib.pow10Tab
end Go.Proofs.YtcaekfebnhedpaaGreatDoor
