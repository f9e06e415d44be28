/- AclNot: for every input within the second form's bound the law answers true and leaves its arguments as they were. Condition: the bulk of the arguments at most 1048576. -/
import Derived.Test.YtgkphjbcaidcpaaGreatDoorCards
import Derived.Test.YtgkphjbcaidcpaaGreatDoorTie
import Derived.Test.YtgkphjbcaidcpaaGreatDoorM24
import Derived.WalkKit
import Derived.ProofKit
import Derived.OpenShut
import Derived.JoinedCond
import Derived.Deep.DeepHandedRow
import Derived.Deep.DeepWitnessRowRef
import Derived.Lib.LaidTab
import Derived.Lay
set_option linter.unusedVariables false
set_option linter.unusedSimpArgs false
set_option maxRecDepth 100000
namespace Go.Proofs.YtgkphjbcaidcpaaGreatDoor.aclNot
open Go.ChangeShapes Go.WideShapes Go.ChangeAt Go.RowKit

set_option maxHeartbeats 4000000 in
theorem walk (w : World) (hM : MaxL w) (ln : List UInt8) (hln : ln.length ≤ 1048576) (nm : List UInt8) (hnm : nm.length ≤ 1048576) (a : Ac.Ask) (ha : a.host.length ≤ 1048576 ∧ a.meth.length ≤ 1048576 ∧ a.path.length ≤ 1048576 ∧ -9223372036854775808 ≤ a.now ∧ a.now ≤ 9223372036854775807) :
    Calls Tryz.prog 5 #[.string (bs ln), .string (bs nm), askV a] w fun e w' => e = .returned (.bool true) ∧ Below w.heap.size w w' := by
  have hAl := Lib.hid fun W hM => alive_any W hM
  have HAsk : Hid (AskOK a) := Lib.hid ⟨by omega, by omega, by omega, ha.2.2.2.1, ha.2.2.2.2⟩
  have j1 : (Ac.join (Ac.lines1 ln nm)).length ≤ 4194304 := by simp [Ac.join, Ac.lines1, Ac.denyT]; omega
  have j2 : (Ac.join (Ac.lines2 ln nm)).length ≤ 4194304 := by simp [Ac.join, Ac.lines2, Ac.allowT]; omega
  have J1 := Lib.hid j1
  have J2 := Lib.hid j2
  have b1 : bs (100 :: 101 :: 110 :: 121 :: 32 :: nm) = ⟨#[100, 101, 110, 121, 32]⟩ ++ bs nm := by rw [show (100 :: 101 :: 110 :: 121 :: 32 :: nm) = [100, 101, 110, 121, 32] ++ nm from rfl, ← bs_append]; rfl
  have b2 : bs (97 :: 108 :: 108 :: 111 :: 119 :: 32 :: 33 :: nm) = ⟨#[97, 108, 108, 111, 119, 32, 33]⟩ ++ bs nm := by rw [show (97 :: 108 :: 108 :: 111 :: 119 :: 32 :: 33 :: nm) = [97, 108, 108, 111, 119, 32, 33] ++ nm from rfl, ← bs_append]; rfl
  have b3 : bs (100 :: 101 :: 110 :: 121 :: 32 :: (nm ++ 32 :: 33 :: nm)) = ⟨#[100, 101, 110, 121, 32]⟩ ++ bs nm ++ ⟨#[32, 33]⟩ ++ bs nm := by rw [show (100 :: 101 :: 110 :: 121 :: 32 :: (nm ++ 32 :: 33 :: nm)) = [100, 101, 110, 121, 32] ++ nm ++ [32, 33] ++ nm from by simp, ← bs_append, ← bs_append, ← bs_append]; rfl
  have HR1 := Lib.hid fun (W : World) => (by have h := rdS_litA W (Ac.lines1 ln nm) 9 #[.string (bs ln), .string (⟨#[100, 101, 110, 121, 32]⟩ ++ bs nm), .string (⟨#[97, 108, 108, 111, 119, 32, 33]⟩ ++ bs nm), .string ⟨#[100, 101, 110, 121]⟩] (by rw [← b1, ← b2]; rfl); exact h : RdS (W.alloc (.cells #[.string (bs ln), .string (⟨#[100, 101, 110, 121, 32]⟩ ++ bs nm), .string (⟨#[97, 108, 108, 111, 119, 32, 33]⟩ ++ bs nm), .string ⟨#[100, 101, 110, 121]⟩] 9)) (some ⟨W.heap.size, 0, none⟩) 4 (Ac.lines1 ln nm))
  have HR2 := Lib.hid fun (W : World) => (by have h := rdS_litA W (Ac.lines2 ln nm) 9 #[.string (bs ln), .string (⟨#[100, 101, 110, 121, 32]⟩ ++ bs nm ++ ⟨#[32, 33]⟩ ++ bs nm), .string ⟨#[97, 108, 108, 111, 119]⟩] (by rw [← b3]; rfl); exact h : RdS (W.alloc (.cells #[.string (bs ln), .string (⟨#[100, 101, 110, 121, 32]⟩ ++ bs nm ++ ⟨#[32, 33]⟩ ++ bs nm), .string ⟨#[97, 108, 108, 111, 119]⟩] 9)) (some ⟨W.heap.size, 0, none⟩) 3 (Ac.lines2 ln nm))
  have HR0 := Lib.hid fun (W : World) => (rdS_litA W [ln, nm] 9 #[.string (bs ln), .string (bs nm)] rfl : RdS (W.alloc (.cells #[.string (bs ln), .string (bs nm)] 9)) (some ⟨W.heap.size, 0, none⟩) 2 [ln, nm])
  have HLW := Lib.hid (fun s (hs : s ∈ [ln, nm]) => (by rcases List.mem_cons.1 hs with rfl | hs; omega; rw [List.mem_singleton.1 hs]; omega : s.length ≤ 4194304))
  have hal := alloc_below w (.cells #[.int .i64 a.src, .string (bs a.host), .int .i64 a.port, .string (bs a.meth), .string (bs a.path), .int .i64 a.now] 37)
  have hr0 := heap_alloc_new w (.cells #[.int .i64 a.src, .string (bs a.host), .int .i64 a.port, .string (bs a.meth), .string (bs a.path), .int .i64 a.now] 37)
  have hM1 := maxl_b hM hal
  clear b1 b2 b3 j1 j2 ha
  unfold askV
  go_enter Tryz.func5, Tryz.ntmps5
  go_upto_region 1 with fail
  generalize w.alloc (.cells #[.int .i64 a.src, .string (bs a.host), .int .i64 a.port, .string (bs a.meth), .string (bs a.path), .int .i64 a.now] 37) = w1 at *
  have HA0 := Lib.hid hr0
  have HB1 := Lib.hid hal
  have hA1 := hAl.out w1 hM1
  clear hal hr0
  go_wp2_with fail
  refine hA1.mono ?_
  rintro e w2 ⟨rfl, hb2⟩
  have HM2 := Lib.hid (maxl_b hM1 hb2)
  have HB2 := Lib.hid (bnext HB1.out hb2 HB1.out.size)
  have HA2 := Lib.hid ((hb2.block _ (Array.getElem?_eq_some_iff.1 HA0.out).1).trans HA0.out)
  have hal3 := alloc_below w2 (.cells #[.string (bs ln), .string (bs nm)] 9)
  have hW3 := whole_any (some ⟨w2.heap.size, 0, none⟩) 2 2 [ln, nm] _ (HR0.out w2) (by omega) HLW.out
  have HM3 := Lib.hid (maxl_b HM2.out hal3)
  have HB3 := Lib.hid (bnext HB2.out hal3 HB2.out.size)
  have HA3 := Lib.hid ((hal3.block _ (Array.getElem?_eq_some_iff.1 HA2.out).1).trans HA2.out)
  clear hA1 hb2 hM1 hal3
  go_wp2_with fail
  generalize w2.alloc (.cells #[.string (bs ln), .string (bs nm)] 9) = w3 at *
  refine hW3.mono ?_
  rintro e wq ⟨rfl, hq⟩
  subst wq
  cases hwl : Ac.wholeL [ln, nm] with
  | false =>
    clear hW3
    go_wp2
    go_ret
    exact ⟨rfl, HB3.out⟩
  | true =>
    obtain ⟨hw1, hw2⟩ := Ac.whole_lines1 hwl
    have HP1 := Lib.hid (Ac.parse_lines (Ac.lines1 ln nm) (by simp [Ac.lines1]) hw1 (by simp [Ac.lines1]))
    have HP2 := Lib.hid (Ac.parse_lines (Ac.lines2 ln nm) (by simp [Ac.lines2]) hw2 (by simp [Ac.lines2]))
    clear hW3 hw1 hw2 hwl
    have hal4 := alloc_below w3 (.cells #[.string (bs ln), .string (⟨#[100, 101, 110, 121, 32]⟩ ++ bs nm), .string (⟨#[97, 108, 108, 111, 119, 32, 33]⟩ ++ bs nm), .string ⟨#[100, 101, 110, 121]⟩] 9)
    have hT4 := text_any (some ⟨w3.heap.size, 0, none⟩) 4 4 (Ac.lines1 ln nm) _ (HR1.out w3) (by omega) (Nat.le_trans J1.out (by omega))
    have HM4 := Lib.hid (maxl_b HM3.out hal4)
    have HB4 := Lib.hid (bnext HB3.out hal4 HB3.out.size)
    have HA4 := Lib.hid ((hal4.block _ (Array.getElem?_eq_some_iff.1 HA3.out).1).trans HA3.out)
    clear hal4
    go_wp2_with fail
    generalize w3.alloc (.cells #[.string (bs ln), .string (⟨#[100, 101, 110, 121, 32]⟩ ++ bs nm), .string (⟨#[97, 108, 108, 111, 119, 32, 33]⟩ ++ bs nm), .string ⟨#[100, 101, 110, 121]⟩] 9) = w4 at *
    refine hT4.mono ?_
    rintro e w5 ⟨rfl, hb5⟩
    have hP5 := parse_any (Ac.join (Ac.lines1 ln nm)) w5 (maxl_b HM4.out hb5) J1.out
    rw [HP1.out] at hP5
    unfold ParseOut at hP5
    have HM5 := Lib.hid (maxl_b HM4.out hb5)
    have HB5 := Lib.hid (bnext HB4.out hb5 HB4.out.size)
    have HA5 := Lib.hid ((hb5.block _ (Array.getElem?_eq_some_iff.1 HA4.out).1).trans HA4.out)
    clear hT4 hb5
    generalize Ac.join (Ac.lines1 ln nm) = T1 at *
    generalize hr1 : Ac.parseF Ac.LS.nil 0 (Ac.lines1 ln nm) = RES1 at *
    have HRES1 := Lib.hid hr1
    clear hr1
    go_wp2_with fail
    refine hP5.mono ?_
    rintro e w6 ⟨v1, rfl, hz1, hn1, hb6⟩
    have HZ1 := Lib.hid (fun h => hz1 h)
    have HN1 := Lib.hid hn1
    have HM6 := Lib.hid (maxl_b HM5.out hb6)
    have HB6 := Lib.hid (bnext HB5.out hb6 HB5.out.size)
    have HA6 := Lib.hid ((hb6.block _ (Array.getElem?_eq_some_iff.1 HA5.out).1).trans HA5.out)
    have hal7 := alloc_below w6 (.cells #[.string (bs ln), .string (⟨#[100, 101, 110, 121, 32]⟩ ++ bs nm ++ ⟨#[32, 33]⟩ ++ bs nm), .string ⟨#[97, 108, 108, 111, 119]⟩] 9)
    have hT7 := text_any (some ⟨w6.heap.size, 0, none⟩) 3 3 (Ac.lines2 ln nm) _ (HR2.out w6) (by omega) (Nat.le_trans J2.out (by omega))
    have HM7 := Lib.hid (maxl_b HM6.out hal7)
    have HB7 := Lib.hid (bnext HB6.out hal7 HB6.out.size)
    have HA7 := Lib.hid ((hal7.block _ (Array.getElem?_eq_some_iff.1 HA6.out).1).trans HA6.out)
    have HF7 : Hid (Below w6.heap.size w6 (w6.alloc (.cells #[.string (bs ln), .string (⟨#[100, 101, 110, 121, 32]⟩ ++ bs nm ++ ⟨#[32, 33]⟩ ++ bs nm), .string ⟨#[97, 108, 108, 111, 119]⟩] 9))) := Lib.hid hal7
    clear hP5 hz1 hn1 hb6 hal7
    go_wp2_with fail
    generalize w6.alloc (.cells #[.string (bs ln), .string (⟨#[100, 101, 110, 121, 32]⟩ ++ bs nm ++ ⟨#[32, 33]⟩ ++ bs nm), .string ⟨#[97, 108, 108, 111, 119]⟩] 9) = w7 at *
    refine hT7.mono ?_
    rintro e w8 ⟨rfl, hb8⟩
    have hP8 := parse_any (Ac.join (Ac.lines2 ln nm)) w8 (maxl_b HM7.out hb8) J2.out
    rw [HP2.out] at hP8
    unfold ParseOut at hP8
    have HM8 := Lib.hid (maxl_b HM7.out hb8)
    have HB8 := Lib.hid (bnext HB7.out hb8 HB7.out.size)
    have HA8 := Lib.hid ((hb8.block _ (Array.getElem?_eq_some_iff.1 HA7.out).1).trans HA7.out)
    have HF8 := Lib.hid (bnext HF7.out hb8 HF7.out.size)
    clear hT7 hb8
    generalize Ac.join (Ac.lines2 ln nm) = T2 at *
    generalize hr2 : Ac.parseF Ac.LS.nil 0 (Ac.lines2 ln nm) = RES2 at *
    have HRES2 := Lib.hid hr2
    clear hr2
    go_wp2_with fail
    refine hP8.mono ?_
    rintro e w9 ⟨v2, rfl, hz2, hn2, hb9⟩
    have HZ2 := Lib.hid (fun h => hz2 h)
    have HN2 := Lib.hid hn2
    have HM9 := Lib.hid (maxl_b HM8.out hb9)
    have HB9 := Lib.hid (bnext HB8.out hb9 HB8.out.size)
    have HA9 := Lib.hid ((hb9.block _ (Array.getElem?_eq_some_iff.1 HA8.out).1).trans HA8.out)
    have HF9 := Lib.hid (bnext HF8.out hb9 HF8.out.size)
    clear hP8 hz2 hn2 hb9
    by_cases e1 : RES1.2.2 = 0
    case neg =>
      have i1 : (RES1.2.2 != 0) = true := by rw [bne_iff_ne]; exact e1
      obtain rfl := HN1.out e1
      clear e1 HZ1 HN1
      go_wp2
      go_ret
      exact ⟨rfl, HB9.out⟩
    by_cases e2 : RES2.2.2 = 0
    case neg =>
      have i1 : (RES1.2.2 != 0) = false := by rw [e1]; rfl
      have i2 : (RES2.2.2 != 0) = true := by rw [bne_iff_ne]; exact e2
      clear e1 e2
      go_wp2
      go_ret
      exact ⟨rfl, HB9.out⟩
    obtain ⟨g1, rfl, hL1⟩ := HZ1.out e1
    obtain ⟨g2, rfl, hL2⟩ := HZ2.out e2
    have HL1 := Lib.hid ((hL1 w6 (fun _ _ _ => rfl)).step HF9.out)
    have HL2 := Lib.hid (hL2 w9 (fun _ _ _ => rfl))
    have i1 : (RES1.2.2 != 0) = false := by rw [e1]; rfl
    have i2 : (RES2.2.2 != 0) = false := by rw [e2]; rfl
    have HE1 := Lib.hid e1
    have HE2 := Lib.hid e2
    clear HZ1 HZ2 HN1 HN2 hL1 hL2 e1 e2
    go_wp2
    go_loop [13] (fun t => ∃ k : Nat, k ≤ nm.length ∧ t = .int .i64 (k : Int) ∧ Hid (∀ b ∈ nm.take k, Ac.blk b = false)) (fun t => nm.length - (intOf t).toNat)
    case atStart => exact ⟨0, by omega, rfl, Lib.hid fun b hb => by simp at hb⟩
    case round =>
      obtain ⟨k, hk, rfl, HT⟩ := hrel
      by_cases hlt : k < nm.length
      · by_cases q1 : (nm[k].toNat : Int) = 32
        · have j1 : ((nm[k].toNat : Int) == 32) = true := by rw [beq_iff_eq]; exact q1
          clear q1
          go_wp2
          go_ret
          exact ⟨rfl, HB9.out⟩
        have j1 : ((nm[k].toNat : Int) == 32) = false := by rw [beq_eq_false_iff_ne]; exact q1
        by_cases q2 : (nm[k].toNat : Int) = 9
        · have j2 : ((nm[k].toNat : Int) == 9) = true := by rw [beq_iff_eq]; exact q2
          clear q1 q2
          go_wp2
          go_ret
          exact ⟨rfl, HB9.out⟩
        have j2 : ((nm[k].toNat : Int) == 9) = false := by rw [beq_eq_false_iff_ne]; exact q2
        have HT2 : Hid (∀ b ∈ nm.take (k + 1), Ac.blk b = false) := Lib.hid fun b hb => by
          rw [take_snoc nm k hlt] at hb
          rcases List.mem_append.1 hb with h1 | h1
          · exact HT.out b h1
          · rw [List.mem_singleton.1 h1]
            unfold Ac.blk
            rw [Bool.or_eq_false_iff, beq_eq_false_iff_ne, beq_eq_false_iff_ne]
            exact ⟨fun e => q1 (by rw [e]; rfl), fun e => q2 (by rw [e]; rfl)⟩
        clear q1 q2
        go_wp2
        go_round
        case rel => exact ⟨k + 1, by omega, by go_num, HT2⟩
        case measure => simp [intOf]; omega
      · obtain rfl : k = nm.length := by omega
        have hT := HT.out
        rw [List.take_length] at hT
        have HX : Hid (nm ≠ [] → (Ac.decide_ RES1.1 a = (false, 2) ∨ Ac.decide_ RES1.1 a = (true, 3)) ∧ Ac.decide_ RES2.1 a = (true, 3)) := Lib.hid fun hne => by
          obtain ⟨e, hf, he, hb1, hb2, hr⟩ := Ac.not1 hT hne (by rw [HRES1.out]; exact HE1.out)
          have hr2 := Ac.not2 hT hne hf (by rw [HRES2.out]; exact HE2.out)
          rw [HRES1.out] at hr
          rw [HRES2.out] at hr2
          rw [hr, hr2]
          exact ⟨Ac.not1_dec hb1 hb2 a, Ac.not2_dec hb1 hb2 a⟩
        have hD1 := decide_any g1 RES1.1 a w9 HM9.out HAsk.out HL1.out
        have HDW2 := Lib.hid (fun W (hb : Below w9.heap.size w9 W) => decide_any g2 RES2.1 a W (maxl_b HM9.out hb) HAsk.out (HL2.out.step hb))
        unfold askV decV at hD1 HDW2
        generalize Ac.decide_ RES1.1 a = D1 at *
        generalize Ac.decide_ RES2.1 a = D2 at *
        obtain ⟨x1, m1⟩ := D1
        obtain ⟨x2, m2⟩ := D2
        have c0 : w9.cell? ⟨w.heap.size, 0, none⟩ = some (.int .i64 a.src) := by rw [cell_of_row _ _ _ _ _ _ HA9.out]; rfl
        have c1 : w9.cell? ⟨w.heap.size, 1, none⟩ = some (.string (bs a.host)) := by rw [cell_of_row _ _ _ _ _ _ HA9.out]; rfl
        have c2 : w9.cell? ⟨w.heap.size, 2, none⟩ = some (.int .i64 a.port) := by rw [cell_of_row _ _ _ _ _ _ HA9.out]; rfl
        have c3 : w9.cell? ⟨w.heap.size, 3, none⟩ = some (.string (bs a.meth)) := by rw [cell_of_row _ _ _ _ _ _ HA9.out]; rfl
        have c4 : w9.cell? ⟨w.heap.size, 4, none⟩ = some (.string (bs a.path)) := by rw [cell_of_row _ _ _ _ _ _ HA9.out]; rfl
        have c5 : w9.cell? ⟨w.heap.size, 5, none⟩ = some (.int .i64 a.now) := by rw [cell_of_row _ _ _ _ _ _ HA9.out]; rfl
        dsimp only at hD1 HDW2
        clear hT
        go_wp2_with fail
        refine hD1.mono ?_
        rintro e w10 ⟨rfl, hb10⟩
        have hA10 := (hb10.block _ (Array.getElem?_eq_some_iff.1 HA9.out).1).trans HA9.out
        have hD2 := HDW2.out w10 hb10
        have HB10 := Lib.hid (bnext HB9.out hb10 HB9.out.size)
        clear hD1 hb10 c0 c1 c2 c3 c4 c5
        have c0 : w10.cell? ⟨w.heap.size, 0, none⟩ = some (.int .i64 a.src) := by rw [cell_of_row _ _ _ _ _ _ hA10]; rfl
        have c1 : w10.cell? ⟨w.heap.size, 1, none⟩ = some (.string (bs a.host)) := by rw [cell_of_row _ _ _ _ _ _ hA10]; rfl
        have c2 : w10.cell? ⟨w.heap.size, 2, none⟩ = some (.int .i64 a.port) := by rw [cell_of_row _ _ _ _ _ _ hA10]; rfl
        have c3 : w10.cell? ⟨w.heap.size, 3, none⟩ = some (.string (bs a.meth)) := by rw [cell_of_row _ _ _ _ _ _ hA10]; rfl
        have c4 : w10.cell? ⟨w.heap.size, 4, none⟩ = some (.string (bs a.path)) := by rw [cell_of_row _ _ _ _ _ _ hA10]; rfl
        have c5 : w10.cell? ⟨w.heap.size, 5, none⟩ = some (.int .i64 a.now) := by rw [cell_of_row _ _ _ _ _ _ hA10]; rfl
        clear hA10
        go_wp2_with fail
        refine hD2.mono ?_
        rintro e w11 ⟨rfl, hb11⟩
        have HB11 := Lib.hid (bnext HB10.out hb11 HB10.out.size)
        clear hD2 hb11 c0 c1 c2 c3 c4 c5
        by_cases hne : nm = []
        · have k1 : (nm == []) = true := by rw [hne]; rfl
          clear hne
          go_wp2
          go_ret
          exact ⟨rfl, HB11.out⟩
        · have k1 : (nm == []) = false := by simpa using hne
          obtain ⟨h1, h2⟩ := HX.out hne
          injection h2 with h2 h3
          subst h2 h3
          rcases h1 with h1 | h1
          · injection h1 with h1 h4
            subst h1 h4
            clear hne
            go_wp2
            go_ret
            exact ⟨rfl, HB11.out⟩
          · injection h1 with h1 h4
            subst h1 h4
            clear hne
            go_wp2
            go_ret
            exact ⟨rfl, HB11.out⟩

theorem own : ownKnob Tryz.prog.godebug = none := by kernel_rfl
theorem contract (H : Type) (enc : TypeId × Value → H) (W : World) (base : Nat) (args : Array Value) (ds gs : List (DataW H)) (before : List MemPlace)
    (hval : ∀ (j : Nat) t v, Tryz.f5.params[j]? = some t → args[j]? = some v → Value.okWide Tryz.prog W .any base t v)
    (hW : DataW.Whole enc Tryz.prog Tryz.f5.params.toList Rows.aclNotSpec.vars false W args.toList ds gs before) (hk : Rows.uptoSmall H (ds ++ gs) = true) (hmax : MaxL W) :
    Calls Tryz.prog 5 args W fun e W' => ∃ v, e = .returned v ∧ Rows.aclNotSpec.post enc Tryz.prog Tryz.f5 false true false false W args v W' := by
  have hW' := hW
  obtain ⟨p, q, hA0, hV, rfl, hfz, hnd⟩ := hW
  have hA : DataW.TrodAll enc Tryz.prog W 0 (fun _ => true) true Tryz.f5.params.toList args.toList ds p := hA0
  rw [Tryz.params5] at hA hval
  obtain ⟨v0, vs0, d0, ds0, p0, q0, hargs, rfl, rfl, h0, r0⟩ := trodAll_cons hA
  obtain ⟨v1, vs1, d1, ds1, p1, q1, rfl, rfl, rfl, h1, r1⟩ := trodAll_cons r0
  obtain ⟨v2, vs2, d2, ds2, p2, q2, rfl, rfl, rfl, h2, r2⟩ := trodAll_cons r1
  obtain ⟨rfl, rfl, rfl⟩ := trodAll_nil r2
  obtain rfl : args = #[v0, v1, v2] := by cases args; simp_all
  obtain ⟨rfl, rfl⟩ := trodVars_none hV
  have hall := bulks.bound hk
  simp only [List.append_nil, Rows.uptoBulkAll] at hall
  have hb0 : Rows.uptoBulk d0 ≤ 1048576 := by omega
  have hb1 : Rows.uptoBulk d1 ≤ 1048576 := by omega
  have hb2 : Rows.uptoBulk d2 ≤ 1048576 := by omega
  clear hall
  obtain ⟨s0, rfl, e0⟩ := opS (hval 0 9 v0 rfl rfl) h0
  obtain ⟨s1, rfl, e1⟩ := opS (hval 1 9 v1 rfl rfl) h1
  obtain ⟨a2, rfl, ha2⟩ := opAsk (hval 2 37 v2 rfl rfl) h2 hb2
  have hl0 : s0.length ≤ 1048576 := by have := hb0; rw [e0, bulks.string_eq] at this; omega
  have hl1 : s1.length ≤ 1048576 := by have := hb1; rw [e1, bulks.string_eq] at this; omega
  clear hA0
  refine (walk W hmax s0 hl0 s1 hl1 a2 ha2).mono fun e W' ⟨he, hg⟩ => ?_
  subst he
  exact ⟨_, rfl, post_of_below (pa := p0 ++ (p1 ++ (p2 ++ ([])))) (pv := []) hW' (fun _ _ _ => (trodAll_cons_mk (shut_bool Tryz.underlying4 _) trodAll_mk0)) (fun sp hsp => (trodAll_cons_mk (arg_stays laidOut (by kernel_rfl) (of_decide_eq_true (by kernel_rfl)) h0 hg (fun x hx => hW'.lt x (by simp [hx])) sp (fun x hx => hsp x (by simp [hx]))) (trodAll_cons_mk (arg_stays laidOut (by kernel_rfl) (of_decide_eq_true (by kernel_rfl)) h1 hg (fun x hx => hW'.lt x (by simp [hx])) sp (fun x hx => hsp x (by simp [hx]))) (trodAll_cons_mk (arg_stays laidOut (by kernel_rfl) (of_decide_eq_true (by kernel_rfl)) h2 hg (fun x hx => hW'.lt x (by simp [hx])) sp (fun x hx => hsp x (by simp [hx]))) trodAll_mk0)))) (fun _ _ => rfl) rfl
    hg (ok_one (by kernel_rfl) rfl (okWide_bool_mk Tryz.underlying4 _))⟩

/-- A world for the witness: the listed variables hold what the program lays. -/
noncomputable def laidWorld (os : Os) : World := World.laidAll Tryz.prog os Rows.aclNotUptoRow.laid
set_option maxRecDepth 1000000 in
theorem laid_met (os : Os) : laidMet Tryz.prog Rows.aclNotUptoRow.laid ((laidWorld os).forCall (fun _ _ => 0) ⟨#[], #[.string ⟨#[]⟩, .string ⟨#[]⟩, .agg #[.int .i64 0, .string ⟨#[]⟩, .int .i64 0, .string ⟨#[]⟩, .string ⟨#[]⟩, .int .i64 0]], []⟩).memory :=
  laidMet_laidAll _ (by kernel_rfl) (by kernel_rfl)

theorem reads (os : Os) {H : Type} (enc : TypeId × Value → H) : ∃ places, DataW.whole enc Tryz.prog ((laidWorld os).forCall (fun _ _ => 0) ⟨#[], #[.string ⟨#[]⟩, .string ⟨#[]⟩, .agg #[.int .i64 0, .string ⟨#[]⟩, .int .i64 0, .string ⟨#[]⟩, .string ⟨#[]⟩, .int .i64 0]], []⟩).memory Tryz.f5.params.toList Rows.aclNotSpec.vars false #[.string ⟨#[]⟩, .string ⟨#[]⟩, .agg #[.int .i64 0, .string ⟨#[]⟩, .int .i64 0, .string ⟨#[]⟩, .string ⟨#[]⟩, .int .i64 0]].toList 8 = some ([.lit (.string []), .lit (.string []), .agg [.lit (.int .i64 0), .lit (.string []), .lit (.int .i64 0), .lit (.string []), .lit (.string []), .lit (.int .i64 0)]], [], places) :=
  ⟨[], by kernel_rfl⟩

set_option maxRecDepth 100000 in
theorem liftedUpto (os : Os) (started : os.Started) (H : Type) (enc : TypeId × Value → H) (F : Stop.Interp) :
    ReturnsInHanded {} Tryz.checked os 5 .any ((Rows.OpenSpec.upto Rows.aclNotSpec).preRow enc Tryz.prog Tryz.f5 Rows.aclNotUptoRow.domain false Rows.aclNotUptoRow.laid) (((Rows.OpenSpec.upto Rows.aclNotSpec).at F).post enc Tryz.prog Tryz.f5 false true false false) := by
  obtain ⟨places, hx⟩ := reads os enc
  refine returnsInHanded_of_row (C := Tryz.checked) (s := Rows.OpenSpec.upto Rows.aclNotSpec) own started (by kernel_rfl) Tryz.func5
    (witness_row_atRef (enc := enc) (C := Tryz.checked) false (laidWorld os) #[.string ⟨#[]⟩, .string ⟨#[]⟩, .agg #[.int .i64 0, .string ⟨#[]⟩, .int .i64 0, .string ⟨#[]⟩, .string ⟨#[]⟩, .int .i64 0]] (World.laidAll_os _ _ _) (by kernel_rfl) (by kernel_rfl) (by kernel_rfl)
      (OpenSpec.preRow_of_cond 8 hx (by kernel_rfl) (fun k hk => by cases hk; kernel_rfl) (by kernel_rfl) (laid_met os))) ?_
  intro W base args ds gs before hval hW g1 hcond g2 g3 g4 g5
  exact contract H enc W base args ds gs before hval hW (hcond _ rfl) (by first | exact maxl_of g4 | exact maxl_of g3 | exact maxl_of g2 | exact maxl_of g5 | exact maxl_of g1)

theorem saidUpto : Rows.AclNotUptoSaid :=
  OpenClaim.holds_of_cond 5 Tryz.f5 rfl rfl rfl rfl rfl rfl rfl ⟨rfl, rfl, rfl, rfl, rfl⟩ rfl rfl rfl rfl rfl (by kernel_rfl) Tryz.func5 (by kernel_rfl)
    (of_decide_eq_true (by kernel_rfl)) (by unfold Func.isWrapper; first | (rw [if_pos (by decide +kernel)]; kernel_rfl) | (rw [if_neg (by decide +kernel)]; exact ⟨rfl, rfl⟩))
    (fun os started H enc _ F => by rw [OpenClaim.pre_eq_preRow]; exact liftedUpto os started H enc F)

theorem plain (f : FuncId) (fn : Func) (hf : Tryz.pinned.checked.prog.funcNamed "conduit/conduitlaw21.AclNot" = some f) (hfn : Tryz.pinned.checked.prog.funcs[f]? = some fn) :
    true = Tryz.pinned.checked.prog.looks [] ∧ ∀ (j : Nat) t, fn.params[j]? = some t → Tryz.pinned.checked.prog.wantsStandIn t = false := by
  obtain rfl : f = 5 := Option.some.inj ((show Tryz.prog.funcNamed "conduit/conduitlaw21.AclNot" = some 5 by kernel_rfl).symm.trans hf) |>.symm
  obtain rfl : fn = Tryz.f5 := (Option.some.inj (Tryz.func5.symm.trans hfn)).symm
  refine ⟨by kernel_rfl, fun j t ht => ?_⟩
  rw [Tryz.params5] at ht
  have hm := Array.mem_of_getElem? ht
  simp only [List.mem_toArray, List.mem_cons, List.not_mem_nil, or_false] at hm
  rcases hm with rfl | rfl | rfl
  · exact (show Tryz.prog.wantsStandIn 9 = false by kernel_rfl)
  · exact (show Tryz.prog.wantsStandIn 9 = false by kernel_rfl)
  · exact (show Tryz.prog.wantsStandIn 37 = false by kernel_rfl)

theorem proved : Rows.AclNotUptoCardSaid :=
  Claim7.holds_tied_plain_at .later [] _ _ _ _ saidUpto (fun _ h => by cases h) (by kernel_rfl) (fun _ h => by cases h) aclNotUpto_row_tie rfl ⟨rfl, rfl⟩ (by kernel_rfl) rfl plain (by kernel_rfl)
end Go.Proofs.YtgkphjbcaidcpaaGreatDoor.aclNot
