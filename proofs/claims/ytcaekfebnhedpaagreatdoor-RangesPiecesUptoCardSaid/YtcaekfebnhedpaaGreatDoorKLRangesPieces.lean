/- RangesPieces: for every input within the second form's bound the law answers true and leaves its arguments as they were. Condition: the bulk of the arguments at most 1048576. -/
import Derived.Test.YtcaekfebnhedpaaGreatDoorCards
import Derived.Test.YtcaekfebnhedpaaGreatDoorTie
import Derived.Test.YtcaekfebnhedpaaGreatDoorM39
import Derived.Test.YtcaekfebnhedpaaGreatDoorM41
import Derived.WalkKit
import Derived.ProofKit
import Derived.OpenShut
import Derived.JoinedCond
import Derived.Deep.DeepHandedRow
import Derived.Deep.DeepWitnessRowRef
import Derived.Lib.LaidTab
import Derived.Stop.LaidErr
import Derived.Lay
set_option linter.unusedVariables false
set_option linter.unusedSimpArgs false
set_option maxRecDepth 100000
namespace Go.Proofs.YtcaekfebnhedpaaGreatDoor.rangesPieces
open Go.ChangeShapes Go.WideShapes Go.ChangeAt Go.RowKit

set_option maxRecDepth 100000
set_option maxHeartbeats 8000000 in
theorem walk (w : World) (ht : Tab w) (hM : MaxL w) (Y : Option Addr) (k e : Nat) (b : List UInt8) (hb : RdB w Y k b) (hk : k ≤ 1048576) (hke : k ≤ e) (hee : e ≤ maxLen) (I : Option Addr) (n c : Nat) (zs : List Int) (hz : RdI w I n zs) (hzb : ∀ z ∈ zs, -9223372036854775808 ≤ z ∧ z ≤ 9223372036854775807) (hnc : n ≤ c) (hcm : c ≤ maxLen) :
    Calls Tryz.prog 7 #[.slice Y k e, .slice I n c] w fun x w' => x = .returned (.bool true) ∧ Below w.heap.size w w' := by
  have hA := Lib.hid fun W hT hX => alive19_any W hT hX
  have hbl := hb.1
  by_cases hn40 : 40 < n
  · go_enter Tryz.func7, Tryz.ntmps7
    go_wp2_with fail
    refine (hA.out _ ht hM).mono ?_
    rintro e w1 ⟨rfl, hb1⟩
    clear hA
    go_wp2
    go_ret
    exact ⟨rfl, hb1⟩
  go_enter Tryz.func7, Tryz.ntmps7
  go_wp2_with fail
  refine (hA.out _ ht hM).mono ?_
  rintro xx w1 ⟨rfl, hb1⟩
  clear hA
  have hmd := OwnB.made w1
  have hbm := alloc_below w1 (.cells #[] 5)
  go_upto_region 6 with fail
  go_wp2
  go_loopw [5, 6] (fun gv t wr => ∃ (i a : Nat) (A5 : Option Addr) (c5 : Nat), i ≤ n ∧ t = .int .i64 (i : Int) ∧ gv = .slice A5 a c5 ∧ a ≤ k ∧ OwnB wr w1.heap.size (.slice A5 a c5) (b.take a) ∧ Below w1.heap.size w1 wr) (fun _ t _ => n - (intOf t).toNat)
  case atStart => exact ⟨0, 0, _, 0, by omega, rfl, rfl, by omega, hmd, hbm⟩
  case round =>
    obtain ⟨i, a, A5, c5, hi, rfl, rfl, hak, hown, hbr⟩ := hrel
    clear hmd hbm
    have hbrw := hb1.trans (hbr.mono hb1.size)
    by_cases hlt : i < n ∧ a < k
    · obtain ⟨hin, hak2⟩ := hlt
      obtain ⟨gz, oz, z, rfl, hgz, HX, hcz⟩ := (hz.step hbrw).at_ hin
      have hzz := hzb z (mem_of_get? HX.out)
      by_cases hz1 : z < 1
      · clear HX hzz
        have HSP0 := Lib.hid (Rg.rng_two [98, 121, 116, 101, 115, 61] (k := k) (a := a) (b := a) rfl (by decide) (by omega) (by omega) (by omega) (by omega))
        rw [show min ((a : Nat) : Int) ((k : Int) - 1) = (a : Int) by omega] at HSP0
        have HSH1 := Lib.hid fun W => show_pos a W (by omega)
        have HSH2 := HSH1
        obtain ⟨j, hj⟩ : ∃ j : Nat, j = a := ⟨a, rfl⟩
        have hjk : j < k := by omega
        have haj : a ≤ j := by omega
        have hjn : j + 1 - a ≤ 1 := by omega
        have HSP : Hid (Rg.parseL ([98, 121, 116, 101, 115, 61] ++ (Lib.decDigits a ++ 45 :: Lib.decDigits a)) (k : Int) = ([((a : Int), (j : Int))], 0)) := Lib.hid (by rw [hj]; exact HSP0.out)
        clear HSP0
        have HJ0 := Lib.hid hj
        clear hj
        have hL1 := dec_len (k := a) (by omega)
        generalize Lib.decDigits a = D1 at *
        have hcat : ((((⟨#[98, 121, 116, 101, 115, 61]⟩ : ByteArray) ++ bs D1) ++ ⟨#[45]⟩) ++ bs D1) = bs ([98, 121, 116, 101, 115, 61] ++ (D1 ++ 45 :: D1)) := by
          rw [show (⟨#[98, 121, 116, 101, 115, 61]⟩ : ByteArray) = bs [98, 121, 116, 101, 115, 61] from rfl, show (⟨#[45]⟩ : ByteArray) = bs [45] from rfl, bs_append, bs_append, bs_append]
          congr 1; simp
        have HTL : Hid (([98, 121, 116, 101, 115, 61] ++ (D1 ++ 45 :: D1)).length ≤ 60) := Lib.hid (by simp; omega)
        generalize hTX : [98, 121, 116, 101, 115, 61] ++ (D1 ++ 45 :: D1) = TX at *
        clear hTX
        have hHG := Rg.one_has (nm := Rg.rngP) (l := []) (b := b) (p := ((a : Int), (j : Int))) rfl (by rw [hbl]; exact HSP.out) (by decide)
        have HHG := Lib.hid hHG.1
        have HHA := Lib.hid hHG.2
        clear hHG
        have HPC : Hid (Rg.pieceL ((a : Int), (j : Int)) b = (b.drop a).take (j + 1 - a)) := Lib.hid (by unfold Rg.pieceL; rfl)
        have HLN : Hid (((b.drop a).take (j + 1 - a)).length = j + 1 - a) := Lib.hid (by rw [List.length_take, List.length_drop, hbl]; omega)
        have HNX : Hid (b.take a ++ (b.drop a).take (j + 1 - a) = b.take (a + (j + 1 - a))) := Lib.hid (by rw [List.take_add])
        go_wp2_with fail
        refine (HSH1.out _).mono ?_
        rintro xx w2 ⟨rfl, hb2⟩
        have hbA := bnext hbr hb2 hbr.size
        have hoA := hown.step hb2
        clear hb2 HSH1
        go_wp2_with fail
        refine (HSH2.out _).mono ?_
        rintro xx w3 ⟨rfl, hb3⟩
        replace hbA := bnext hbA hb3 hbA.size
        replace hoA := hoA.step hb3
        clear hb3 HSH2
        have hal := alloc_below w3 (.cells #[.string (bs Rg.rngP), .string (bs TX)] 46)
        have hfd := one_rdF w3 Rg.rngP TX 46
        replace hbA := bnext hbA hal hbA.size
        replace hoA := hoA.step hal
        have hbW := hb1.trans (hbA.mono hb1.size)
        have hC := copyBytes_own Y k e b _ (hb.step hbW) (by omega)
        go_wp2_with fail
        refine hC.mono ?_
        rintro xx w5 ⟨Y5, k5, e5, rfl, hB5, hb5⟩
        clear hC
        have hfd5 := hfd.step hb5
        replace hbA := bnext hbA hb5 hbA.size
        replace hoA := hoA.step hb5
        obtain rfl : k = k5 := by have := hB5.rd.1; omega
        have hc5 := hB5.capB
        have hB5r := hB5.rd
        clear hfd hb5 hB5 hal hbW
        have hbW := hb1.trans (hbA.mono hb1.size)
        have hC := apply_one (some ⟨w3.heap.size, 0, none⟩) 1 1 [(Rg.rngP, TX)] 200 [] 0 none 0 0 [] Y5 k e5 b w5 (tab_b ht hbW) (maxl_b hM hbW) hfd5 (by omega) (by intro f hf9; rw [List.mem_singleton] at hf9; subst hf9; exact ⟨by show Rg.rngP.length ≤ _; decide, by show TX.length ≤ _; have := HTL.out; omega⟩) (by rw [HHG.out]; have := HTL.out; omega) (RdF.nil _ _) (by omega) (by intro f hf; cases hf) hB5r (by omega) hc5.1 hc5.2 ((a : Int), (j : Int)) HHA.out (by rw [HHG.out, hbl]; exact HSP.out) ⟨by omega, by show (a : Int) ≤ (j : Int); omega, by show (j : Int) < _; rw [hbl]; omega⟩
        unfold ApOut respV Rg.oneA at hC
        dsimp only at hC
        rw [HPC.out] at hC
        clear HHG HHA HSP hfd5 hB5r hc5 HPC HJ0
        go_wp2_with fail
        refine hC.mono ?_
        rintro xx w6 ⟨A6, n6, c6, Y6, k6, e6, rfl, hF6, hB6, hb6⟩
        clear hC hF6
        replace hbA := bnext hbA hb6 hbA.size
        replace hoA := hoA.step hb6
        have hal := alloc_below w6 (.cells #[.int .i64 206, .string (bs Rg.partT), .int .i64 0, .slice A6 n6 c6] 31)
        have hbx := heap_alloc_new w6 (.cells #[.int .i64 206, .string (bs Rg.partT), .int .i64 0, .slice A6 n6 c6] 31)
        have hB7 := hB6.rd.step hal
        replace hbA := bnext hbA hal hbA.size
        replace hoA := hoA.step hal
        have HK6 : Hid (k6 = j + 1 - a) := Lib.hid (by have := hB7.1; have := HLN.out; omega)
        have hk6p : 1 ≤ k6 := by have := HK6.out; omega
        clear hB6 hb6 hal hbW
        go_upto_region 14 with fail
        generalize w6.alloc (.cells #[.int .i64 206, .string (bs Rg.partT), .int .i64 0, .slice A6 n6 c6] 31) = w7 at *
        obtain ⟨c0, -, -, -, -⟩ := row_facts4 hbx
        have hk60 : ((k6 : Int) == 0) = false := by rw [beq_eq_false_iff_ne]; omega
        have hk6n : ¬ ((1 : Int) < (k6 : Int)) := by have := HK6.out; omega
        generalize hpc : (b.drop a).take (j + 1 - a) = PC at *
        have HPCn := Lib.hid hpc
        clear hpc
        have hk6b : k6 ≤ 1048576 := by have := HK6.out; omega
        have htl : (b.take a).length ≤ 1048576 := by rw [List.length_take]; omega
        have hszA := hbA.size
        generalize hta : b.take a = TA at *
        have HTA := Lib.hid hta
        clear hta hbx
        go_wp2_with
          (at_builtin; go_loud (
           refine wp_appB rfl (.tmp 81) (.tmp 82) rfl w1.heap.size (.slice A5 a c5) TA rfl hoA _ k6 e6 PC rfl hB7 ?hby1 ?hbase1 ?_
           case hby1 => omega
           case hbase1 => exact hszA
           intro A8 n8 c8 w8 hown8 hb8 hn8))
        have HN8 : Hid (n8 = a + k6) := Lib.hid (by rw [hn8.out, ← HTA.out, List.length_take]; omega)
        have HNX2 : Hid (TA ++ PC = b.take (a + k6)) := Lib.hid (by rw [HNX.out, HK6.out])
        go_roundw
        case rel => exact ⟨i + 1, a + k6, A8, c8, by omega, by go_num, by rw [HN8.out], by have := HK6.out; omega, by rw [← HNX2.out, ← HN8.out]; exact hown8, hbA.trans hb8⟩
        case measure => simp [intOf]; omega
      · by_cases hz2 : (k : Int) < z
        · clear HX hzz
          have HSP0 := Lib.hid (Rg.rng_two [98, 121, 116, 101, 115, 61] (k := k) (a := a) (b := a) rfl (by decide) (by omega) (by omega) (by omega) (by omega))
          rw [show min ((a : Nat) : Int) ((k : Int) - 1) = (a : Int) by omega] at HSP0
          have HSH1 := Lib.hid fun W => show_pos a W (by omega)
          have HSH2 := HSH1
          obtain ⟨j, hj⟩ : ∃ j : Nat, j = a := ⟨a, rfl⟩
          have hjk : j < k := by omega
          have haj : a ≤ j := by omega
          have hjn : j + 1 - a ≤ 1 := by omega
          have HSP : Hid (Rg.parseL ([98, 121, 116, 101, 115, 61] ++ (Lib.decDigits a ++ 45 :: Lib.decDigits a)) (k : Int) = ([((a : Int), (j : Int))], 0)) := Lib.hid (by rw [hj]; exact HSP0.out)
          clear HSP0
          have HJ0 := Lib.hid hj
          clear hj
          have hL1 := dec_len (k := a) (by omega)
          generalize Lib.decDigits a = D1 at *
          have hcat : ((((⟨#[98, 121, 116, 101, 115, 61]⟩ : ByteArray) ++ bs D1) ++ ⟨#[45]⟩) ++ bs D1) = bs ([98, 121, 116, 101, 115, 61] ++ (D1 ++ 45 :: D1)) := by
            rw [show (⟨#[98, 121, 116, 101, 115, 61]⟩ : ByteArray) = bs [98, 121, 116, 101, 115, 61] from rfl, show (⟨#[45]⟩ : ByteArray) = bs [45] from rfl, bs_append, bs_append, bs_append]
            congr 1; simp
          have HTL : Hid (([98, 121, 116, 101, 115, 61] ++ (D1 ++ 45 :: D1)).length ≤ 60) := Lib.hid (by simp; omega)
          generalize hTX : [98, 121, 116, 101, 115, 61] ++ (D1 ++ 45 :: D1) = TX at *
          clear hTX
          have hHG := Rg.one_has (nm := Rg.rngP) (l := []) (b := b) (p := ((a : Int), (j : Int))) rfl (by rw [hbl]; exact HSP.out) (by decide)
          have HHG := Lib.hid hHG.1
          have HHA := Lib.hid hHG.2
          clear hHG
          have HPC : Hid (Rg.pieceL ((a : Int), (j : Int)) b = (b.drop a).take (j + 1 - a)) := Lib.hid (by unfold Rg.pieceL; rfl)
          have HLN : Hid (((b.drop a).take (j + 1 - a)).length = j + 1 - a) := Lib.hid (by rw [List.length_take, List.length_drop, hbl]; omega)
          have HNX : Hid (b.take a ++ (b.drop a).take (j + 1 - a) = b.take (a + (j + 1 - a))) := Lib.hid (by rw [List.take_add])
          go_wp2_with fail
          refine (HSH1.out _).mono ?_
          rintro xx w2 ⟨rfl, hb2⟩
          have hbA := bnext hbr hb2 hbr.size
          have hoA := hown.step hb2
          clear hb2 HSH1
          go_wp2_with fail
          refine (HSH2.out _).mono ?_
          rintro xx w3 ⟨rfl, hb3⟩
          replace hbA := bnext hbA hb3 hbA.size
          replace hoA := hoA.step hb3
          clear hb3 HSH2
          have hal := alloc_below w3 (.cells #[.string (bs Rg.rngP), .string (bs TX)] 46)
          have hfd := one_rdF w3 Rg.rngP TX 46
          replace hbA := bnext hbA hal hbA.size
          replace hoA := hoA.step hal
          have hbW := hb1.trans (hbA.mono hb1.size)
          have hC := copyBytes_own Y k e b _ (hb.step hbW) (by omega)
          go_wp2_with fail
          refine hC.mono ?_
          rintro xx w5 ⟨Y5, k5, e5, rfl, hB5, hb5⟩
          clear hC
          have hfd5 := hfd.step hb5
          replace hbA := bnext hbA hb5 hbA.size
          replace hoA := hoA.step hb5
          obtain rfl : k = k5 := by have := hB5.rd.1; omega
          have hc5 := hB5.capB
          have hB5r := hB5.rd
          clear hfd hb5 hB5 hal hbW
          have hbW := hb1.trans (hbA.mono hb1.size)
          have hC := apply_one (some ⟨w3.heap.size, 0, none⟩) 1 1 [(Rg.rngP, TX)] 200 [] 0 none 0 0 [] Y5 k e5 b w5 (tab_b ht hbW) (maxl_b hM hbW) hfd5 (by omega) (by intro f hf9; rw [List.mem_singleton] at hf9; subst hf9; exact ⟨by show Rg.rngP.length ≤ _; decide, by show TX.length ≤ _; have := HTL.out; omega⟩) (by rw [HHG.out]; have := HTL.out; omega) (RdF.nil _ _) (by omega) (by intro f hf; cases hf) hB5r (by omega) hc5.1 hc5.2 ((a : Int), (j : Int)) HHA.out (by rw [HHG.out, hbl]; exact HSP.out) ⟨by omega, by show (a : Int) ≤ (j : Int); omega, by show (j : Int) < _; rw [hbl]; omega⟩
          unfold ApOut respV Rg.oneA at hC
          dsimp only at hC
          rw [HPC.out] at hC
          clear HHG HHA HSP hfd5 hB5r hc5 HPC HJ0
          go_wp2_with fail
          refine hC.mono ?_
          rintro xx w6 ⟨A6, n6, c6, Y6, k6, e6, rfl, hF6, hB6, hb6⟩
          clear hC hF6
          replace hbA := bnext hbA hb6 hbA.size
          replace hoA := hoA.step hb6
          have hal := alloc_below w6 (.cells #[.int .i64 206, .string (bs Rg.partT), .int .i64 0, .slice A6 n6 c6] 31)
          have hbx := heap_alloc_new w6 (.cells #[.int .i64 206, .string (bs Rg.partT), .int .i64 0, .slice A6 n6 c6] 31)
          have hB7 := hB6.rd.step hal
          replace hbA := bnext hbA hal hbA.size
          replace hoA := hoA.step hal
          have HK6 : Hid (k6 = j + 1 - a) := Lib.hid (by have := hB7.1; have := HLN.out; omega)
          have hk6p : 1 ≤ k6 := by have := HK6.out; omega
          clear hB6 hb6 hal hbW
          go_upto_region 14 with fail
          generalize w6.alloc (.cells #[.int .i64 206, .string (bs Rg.partT), .int .i64 0, .slice A6 n6 c6] 31) = w7 at *
          obtain ⟨c0, -, -, -, -⟩ := row_facts4 hbx
          have hk60 : ((k6 : Int) == 0) = false := by rw [beq_eq_false_iff_ne]; omega
          have hk6n : ¬ ((1 : Int) < (k6 : Int)) := by have := HK6.out; omega
          generalize hpc : (b.drop a).take (j + 1 - a) = PC at *
          have HPCn := Lib.hid hpc
          clear hpc
          have hk6b : k6 ≤ 1048576 := by have := HK6.out; omega
          have htl : (b.take a).length ≤ 1048576 := by rw [List.length_take]; omega
          have hszA := hbA.size
          generalize hta : b.take a = TA at *
          have HTA := Lib.hid hta
          clear hta hbx
          go_wp2_with
            (at_builtin; go_loud (
             refine wp_appB rfl (.tmp 81) (.tmp 82) rfl w1.heap.size (.slice A5 a c5) TA rfl hoA _ k6 e6 PC rfl hB7 ?hby2 ?hbase2 ?_
             case hby2 => omega
             case hbase2 => exact hszA
             intro A8 n8 c8 w8 hown8 hb8 hn8))
          have HN8 : Hid (n8 = a + k6) := Lib.hid (by rw [hn8.out, ← HTA.out, List.length_take]; omega)
          have HNX2 : Hid (TA ++ PC = b.take (a + k6)) := Lib.hid (by rw [HNX.out, HK6.out])
          go_roundw
          case rel => exact ⟨i + 1, a + k6, A8, c8, by omega, by go_num, by rw [HN8.out], by have := HK6.out; omega, by rw [← HNX2.out, ← HN8.out]; exact hown8, hbA.trans hb8⟩
          case measure => simp [intOf]; omega
        · obtain ⟨nn, rfl⟩ : ∃ nn : Nat, z = nn := ⟨z.toNat, by omega⟩
          clear HX hzz
          have HSP := Lib.hid (Rg.rng_two [98, 121, 116, 101, 115, 61] (k := k) (a := a) (b := a + nn - 1) rfl (by decide) (by omega) (by omega) (by omega) (by omega))
          have HSH1 := Lib.hid fun W => show_pos a W (by omega)
          have HSH2 : Hid (∀ W, Calls Tryz.prog 22 #[.int .i64 ((a : Int) + (nn : Int) - 1)] W fun e w' => e = .returned (.string (bs (Lib.decDigits (a + nn - 1)))) ∧ Below W.heap.size W w') := Lib.hid fun W => by
            have h := show_pos (a + nn - 1) W (by omega)
            rw [show ((a + nn - 1 : Nat) : Int) = (a : Int) + (nn : Int) - 1 by omega] at h
            exact h
          obtain ⟨j, hj⟩ : ∃ j : Nat, (j : Int) = min ((a + nn - 1 : Nat) : Int) ((k : Int) - 1) := ⟨(min ((a + nn - 1 : Nat) : Int) ((k : Int) - 1)).toNat, by omega⟩
          have hjk : j < k := by omega
          have haj : a ≤ j := by omega
          have hjn : j + 1 - a ≤ nn := by omega
          rw [← hj] at HSP
          have HJ0 : Hid True := Lib.hid trivial
          clear hj
          have hL1 := dec_len (k := a) (by omega)
          have hL2 := dec_len (k := a + nn - 1) (by omega)
          generalize Lib.decDigits a = D1 at *
          generalize Lib.decDigits (a + nn - 1) = D2 at *
          have hcat : ((((⟨#[98, 121, 116, 101, 115, 61]⟩ : ByteArray) ++ bs D1) ++ ⟨#[45]⟩) ++ bs D2) = bs ([98, 121, 116, 101, 115, 61] ++ (D1 ++ 45 :: D2)) := by
            rw [show (⟨#[98, 121, 116, 101, 115, 61]⟩ : ByteArray) = bs [98, 121, 116, 101, 115, 61] from rfl, show (⟨#[45]⟩ : ByteArray) = bs [45] from rfl, bs_append, bs_append, bs_append]
            congr 1; simp
          have HTL : Hid (([98, 121, 116, 101, 115, 61] ++ (D1 ++ 45 :: D2)).length ≤ 60) := Lib.hid (by simp; omega)
          generalize hTX : [98, 121, 116, 101, 115, 61] ++ (D1 ++ 45 :: D2) = TX at *
          clear hTX
          have hHG := Rg.one_has (nm := Rg.rngP) (l := []) (b := b) (p := ((a : Int), (j : Int))) rfl (by rw [hbl]; exact HSP.out) (by decide)
          have HHG := Lib.hid hHG.1
          have HHA := Lib.hid hHG.2
          clear hHG
          have HPC : Hid (Rg.pieceL ((a : Int), (j : Int)) b = (b.drop a).take (j + 1 - a)) := Lib.hid (by unfold Rg.pieceL; rfl)
          have HLN : Hid (((b.drop a).take (j + 1 - a)).length = j + 1 - a) := Lib.hid (by rw [List.length_take, List.length_drop, hbl]; omega)
          have HNX : Hid (b.take a ++ (b.drop a).take (j + 1 - a) = b.take (a + (j + 1 - a))) := Lib.hid (by rw [List.take_add])
          go_wp2_with fail
          refine (HSH1.out _).mono ?_
          rintro xx w2 ⟨rfl, hb2⟩
          have hbA := bnext hbr hb2 hbr.size
          have hoA := hown.step hb2
          clear hb2 HSH1
          go_wp2_with fail
          refine (HSH2.out _).mono ?_
          rintro xx w3 ⟨rfl, hb3⟩
          replace hbA := bnext hbA hb3 hbA.size
          replace hoA := hoA.step hb3
          clear hb3 HSH2
          have hal := alloc_below w3 (.cells #[.string (bs Rg.rngP), .string (bs TX)] 46)
          have hfd := one_rdF w3 Rg.rngP TX 46
          replace hbA := bnext hbA hal hbA.size
          replace hoA := hoA.step hal
          have hbW := hb1.trans (hbA.mono hb1.size)
          have hC := copyBytes_own Y k e b _ (hb.step hbW) (by omega)
          go_wp2_with fail
          refine hC.mono ?_
          rintro xx w5 ⟨Y5, k5, e5, rfl, hB5, hb5⟩
          clear hC
          have hfd5 := hfd.step hb5
          replace hbA := bnext hbA hb5 hbA.size
          replace hoA := hoA.step hb5
          obtain rfl : k = k5 := by have := hB5.rd.1; omega
          have hc5 := hB5.capB
          have hB5r := hB5.rd
          clear hfd hb5 hB5 hal hbW
          have hbW := hb1.trans (hbA.mono hb1.size)
          have hC := apply_one (some ⟨w3.heap.size, 0, none⟩) 1 1 [(Rg.rngP, TX)] 200 [] 0 none 0 0 [] Y5 k e5 b w5 (tab_b ht hbW) (maxl_b hM hbW) hfd5 (by omega) (by intro f hf9; rw [List.mem_singleton] at hf9; subst hf9; exact ⟨by show Rg.rngP.length ≤ _; decide, by show TX.length ≤ _; have := HTL.out; omega⟩) (by rw [HHG.out]; have := HTL.out; omega) (RdF.nil _ _) (by omega) (by intro f hf; cases hf) hB5r (by omega) hc5.1 hc5.2 ((a : Int), (j : Int)) HHA.out (by rw [HHG.out, hbl]; exact HSP.out) ⟨by omega, by show (a : Int) ≤ (j : Int); omega, by show (j : Int) < _; rw [hbl]; omega⟩
          unfold ApOut respV Rg.oneA at hC
          dsimp only at hC
          rw [HPC.out] at hC
          clear HHG HHA HSP hfd5 hB5r hc5 HPC HJ0
          go_wp2_with fail
          refine hC.mono ?_
          rintro xx w6 ⟨A6, n6, c6, Y6, k6, e6, rfl, hF6, hB6, hb6⟩
          clear hC hF6
          replace hbA := bnext hbA hb6 hbA.size
          replace hoA := hoA.step hb6
          have hal := alloc_below w6 (.cells #[.int .i64 206, .string (bs Rg.partT), .int .i64 0, .slice A6 n6 c6] 31)
          have hbx := heap_alloc_new w6 (.cells #[.int .i64 206, .string (bs Rg.partT), .int .i64 0, .slice A6 n6 c6] 31)
          have hB7 := hB6.rd.step hal
          replace hbA := bnext hbA hal hbA.size
          replace hoA := hoA.step hal
          have HK6 : Hid (k6 = j + 1 - a) := Lib.hid (by have := hB7.1; have := HLN.out; omega)
          have hk6p : 1 ≤ k6 := by have := HK6.out; omega
          clear hB6 hb6 hal hbW
          go_upto_region 14 with fail
          generalize w6.alloc (.cells #[.int .i64 206, .string (bs Rg.partT), .int .i64 0, .slice A6 n6 c6] 31) = w7 at *
          obtain ⟨c0, -, -, -, -⟩ := row_facts4 hbx
          have hk60 : ((k6 : Int) == 0) = false := by rw [beq_eq_false_iff_ne]; omega
          have hk6n : ¬ ((nn : Int) < (k6 : Int)) := by have := HK6.out; omega
          generalize hpc : (b.drop a).take (j + 1 - a) = PC at *
          have HPCn := Lib.hid hpc
          clear hpc
          have hk6b : k6 ≤ 1048576 := by have := HK6.out; omega
          have htl : (b.take a).length ≤ 1048576 := by rw [List.length_take]; omega
          have hszA := hbA.size
          generalize hta : b.take a = TA at *
          have HTA := Lib.hid hta
          clear hta hbx
          go_wp2_with
            (at_builtin; go_loud (
             refine wp_appB rfl (.tmp 81) (.tmp 82) rfl w1.heap.size (.slice A5 a c5) TA rfl hoA _ k6 e6 PC rfl hB7 ?hby3 ?hbase3 ?_
             case hby3 => omega
             case hbase3 => exact hszA
             intro A8 n8 c8 w8 hown8 hb8 hn8))
          have HN8 : Hid (n8 = a + k6) := Lib.hid (by rw [hn8.out, ← HTA.out, List.length_take]; omega)
          have HNX2 : Hid (TA ++ PC = b.take (a + k6)) := Lib.hid (by rw [HNX.out, HK6.out])
          go_roundw
          case rel => exact ⟨i + 1, a + k6, A8, c8, by omega, by go_num, by rw [HN8.out], by have := HK6.out; omega, by rw [← HNX2.out, ← HN8.out]; exact hown8, hbA.trans hb8⟩
          case measure => simp [intOf]; omega
    · by_cases hak3 : a < k
      · have hin2 : ¬ i < n := fun h => hlt ⟨h, hak3⟩
        have HSP := Lib.hid (Rg.rng_open [98, 121, 116, 101, 115, 61] (k := k) (a := a) rfl (by decide) (by omega) (by omega))
        have HSH1 := Lib.hid fun W => show_pos a W (by omega)
        obtain ⟨j, hj⟩ : ∃ j : Nat, (j : Int) = (k : Int) - 1 := ⟨k - 1, by omega⟩
        have hjk : j < k := by omega
        have haj : a ≤ j := by omega
        rw [← hj] at HSP
        have HJ0 : Hid (j + 1 = k) := Lib.hid (by omega)
        clear hj
        have hL1 := dec_len (k := a) (by omega)
        generalize Lib.decDigits a = D1 at *
        have hcat : (((⟨#[98, 121, 116, 101, 115, 61]⟩ : ByteArray) ++ bs D1) ++ ⟨#[45]⟩) = bs ([98, 121, 116, 101, 115, 61] ++ (D1 ++ [45])) := by
          rw [show (⟨#[98, 121, 116, 101, 115, 61]⟩ : ByteArray) = bs [98, 121, 116, 101, 115, 61] from rfl, show (⟨#[45]⟩ : ByteArray) = bs [45] from rfl, bs_append, bs_append, List.append_assoc]
        have HTL : Hid (([98, 121, 116, 101, 115, 61] ++ (D1 ++ [45])).length ≤ 60) := Lib.hid (by simp; omega)
        generalize hTX : [98, 121, 116, 101, 115, 61] ++ (D1 ++ [45]) = TX at *
        clear hTX
        have hHG := Rg.one_has (nm := Rg.rngP) (l := []) (b := b) (p := ((a : Int), (j : Int))) rfl (by rw [hbl]; exact HSP.out) (by decide)
        have HHG := Lib.hid hHG.1
        have HHA := Lib.hid hHG.2
        clear hHG
        have HPC : Hid (Rg.pieceL ((a : Int), (j : Int)) b = (b.drop a).take (j + 1 - a)) := Lib.hid (by unfold Rg.pieceL; rfl)
        have HLN : Hid (((b.drop a).take (j + 1 - a)).length = j + 1 - a) := Lib.hid (by rw [List.length_take, List.length_drop, hbl]; omega)
        have HNX : Hid (b.take a ++ (b.drop a).take (j + 1 - a) = b.take (a + (j + 1 - a))) := Lib.hid (by rw [List.take_add])
        go_wp2_with fail
        refine (HSH1.out _).mono ?_
        rintro xx w3 ⟨rfl, hb2⟩
        have hbA := bnext hbr hb2 hbr.size
        have hoA := hown.step hb2
        clear hb2 HSH1
        have hal := alloc_below w3 (.cells #[.string (bs Rg.rngP), .string (bs TX)] 46)
        have hfd := one_rdF w3 Rg.rngP TX 46
        replace hbA := bnext hbA hal hbA.size
        replace hoA := hoA.step hal
        have hbW := hb1.trans (hbA.mono hb1.size)
        have hC := copyBytes_own Y k e b _ (hb.step hbW) (by omega)
        go_wp2_with fail
        refine hC.mono ?_
        rintro xx w5 ⟨Y5, k5, e5, rfl, hB5, hb5⟩
        clear hC
        have hfd5 := hfd.step hb5
        replace hbA := bnext hbA hb5 hbA.size
        replace hoA := hoA.step hb5
        obtain rfl : k = k5 := by have := hB5.rd.1; omega
        have hc5 := hB5.capB
        have hB5r := hB5.rd
        clear hfd hb5 hB5 hal hbW
        have hbW := hb1.trans (hbA.mono hb1.size)
        have hC := apply_one (some ⟨w3.heap.size, 0, none⟩) 1 1 [(Rg.rngP, TX)] 200 [] 0 none 0 0 [] Y5 k e5 b w5 (tab_b ht hbW) (maxl_b hM hbW) hfd5 (by omega) (by intro f hf9; rw [List.mem_singleton] at hf9; subst hf9; exact ⟨by show Rg.rngP.length ≤ _; decide, by show TX.length ≤ _; have := HTL.out; omega⟩) (by rw [HHG.out]; have := HTL.out; omega) (RdF.nil _ _) (by omega) (by intro f hf; cases hf) hB5r (by omega) hc5.1 hc5.2 ((a : Int), (j : Int)) HHA.out (by rw [HHG.out, hbl]; exact HSP.out) ⟨by omega, by show (a : Int) ≤ (j : Int); omega, by show (j : Int) < _; rw [hbl]; omega⟩
        unfold ApOut respV Rg.oneA at hC
        dsimp only at hC
        rw [HPC.out] at hC
        clear HHG HHA HSP hfd5 hB5r hc5 HPC
        have HJ0k := HJ0
        go_wp2_with fail
        refine hC.mono ?_
        rintro xx w6 ⟨A6, n6, c6, Y6, k6, e6, rfl, hF6, hB6, hb6⟩
        clear hC hF6
        replace hbA := bnext hbA hb6 hbA.size
        replace hoA := hoA.step hb6
        have hal := alloc_below w6 (.cells #[.int .i64 206, .string (bs Rg.partT), .int .i64 0, .slice A6 n6 c6] 31)
        have hbx := heap_alloc_new w6 (.cells #[.int .i64 206, .string (bs Rg.partT), .int .i64 0, .slice A6 n6 c6] 31)
        have hB7 := hB6.rd.step hal
        replace hbA := bnext hbA hal hbA.size
        replace hoA := hoA.step hal
        have HK6 : Hid (k6 = j + 1 - a) := Lib.hid (by have := hB7.1; have := HLN.out; omega)
        have hk6p : 1 ≤ k6 := by have := HK6.out; omega
        clear hB6 hb6 hal hbW
        go_upto_region 20 with fail
        generalize w6.alloc (.cells #[.int .i64 206, .string (bs Rg.partT), .int .i64 0, .slice A6 n6 c6] 31) = w7 at *
        have HALL : Hid (b.take a ++ (b.drop a).take (j + 1 - a) = b) := Lib.hid (by rw [HNX.out, List.take_of_length_le]; have := HJ0k.out; omega)
        generalize (b.drop a).take (j + 1 - a) = PC at *
        have hk6b : k6 ≤ 1048576 := by have := HK6.out; omega
        have htl : (b.take a).length ≤ 1048576 := by rw [List.length_take]; omega
        have hszA := hbA.size
        generalize b.take a = TA at *
        clear hbx
        go_wp2_with
          (at_builtin; go_loud (
           refine wp_appB rfl (.tmp 104) (.tmp 105) rfl w1.heap.size (.slice A5 a c5) TA rfl hoA _ k6 e6 PC rfl hB7 ?hbyd ?hbased ?_
           case hbyd => omega
           case hbased => exact hszA
           intro A8 n8 c8 w8 hown8 hb8 hn8))
        rw [HALL.out] at hown8
        replace hbA := hbA.trans hb8
        have hbW := hb1.trans (hbA.mono hb1.size)
        have hr8 := hown8.rd
        have hn88 : n8 ≤ 1048576 := by have := hr8.1; omega
        have hC := sameBytes_any A8 Y n8 k c8 e b b w8 hr8 (hb.step hbW) (by omega) (by omega)
        rw [show (b == b) = true by simp] at hC
        clear hr8 hown8
        go_wp2_with fail
        refine hC.mono ?_
        rintro xx w9 ⟨rfl, hb9⟩
        replace hbW := bnext hbW hb9 hbW.size
        clear hC
        go_wp2
        go_ret
        exact ⟨rfl, hbW⟩
      · obtain rfl : a = k := by omega
        have hall : b.take a = b := List.take_of_length_le (by omega)
        rw [hall] at hown
        have hC := sameBytes_any A5 Y a a c5 e b b wr hown.rd (hb.step hbrw) (by omega) (by omega)
        rw [show (b == b) = true by simp] at hC
        clear hall hown
        by_cases hin : i < n
        all_goals
          go_wp2_with fail
          refine hC.mono ?_
          rintro xx w9 ⟨rfl, hb9⟩
          replace hbrw := bnext hbrw hb9 hbrw.size
          clear hC
          go_wp2
          go_ret
          exact ⟨rfl, hbrw⟩

theorem tab_of {W : World} (h : laidMet Tryz.prog Rows.rangesPiecesUptoRow.laid W) : Tab W :=
  Lib.tabIs_of_head (t := 167) (e := 137) (n := 20) (g := 2) (by kernel_rfl) (by kernel_rfl) (by kernel_rfl) (by kernel_rfl) (by kernel_rfl) (by kernel_rfl) ((h).tail).tail
theorem own : ownKnob Tryz.prog.godebug = none := by kernel_rfl
theorem contract (H : Type) (enc : TypeId × Value → H) (W : World) (base : Nat) (args : Array Value) (ds gs : List (DataW H)) (before : List MemPlace)
    (hval : ∀ (j : Nat) t v, Tryz.f7.params[j]? = some t → args[j]? = some v → Value.okWide Tryz.prog W .any base t v)
    (hW : DataW.Whole enc Tryz.prog Tryz.f7.params.toList Rows.rangesPiecesSpec.vars false W args.toList ds gs before) (hk : Rows.uptoSmall H (ds ++ gs) = true) (htab : Tab W) (hmax : MaxL W) :
    Calls Tryz.prog 7 args W fun e W' => ∃ v, e = .returned v ∧ Rows.rangesPiecesSpec.post enc Tryz.prog Tryz.f7 false true false false W args v W' := by
  have hW' := hW
  obtain ⟨p, q, hA0, hV, rfl, hfz, hnd⟩ := hW
  have hA : DataW.TrodAll enc Tryz.prog W 0 (fun _ => true) true Tryz.f7.params.toList args.toList ds p := hA0
  rw [Tryz.params7] at hA hval
  obtain ⟨v0, vs0, d0, ds0, p0, q0, hargs, rfl, rfl, h0, r0⟩ := trodAll_cons hA
  obtain ⟨v1, vs1, d1, ds1, p1, q1, rfl, rfl, rfl, h1, r1⟩ := trodAll_cons r0
  obtain ⟨rfl, rfl, rfl⟩ := trodAll_nil r1
  obtain rfl : args = #[v0, v1] := by cases args; simp_all
  obtain ⟨rfl, rfl⟩ := trodVars_none hV
  have hall := bulks.bound hk
  simp only [List.append_nil, Rows.uptoBulkAll] at hall
  have hb0 : Rows.uptoBulk d0 ≤ 1048576 := by omega
  have hb1 : Rows.uptoBulk d1 ≤ 1048576 := by omega
  clear hall
  obtain ⟨Y0, k0, y0, b0, rfl, hr0, hn0, hc0, hd0⟩ := opBytesA (hval 0 32 v0 rfl rfl) h0 hb0
  obtain ⟨Y1, k1, y1, b1, rfl, hr1, hn1, hc1, hd1⟩ := opIntsA (hval 1 52 v1 rfl rfl) h1
  clear hA0
  refine (walk W htab hmax Y0 k0 y0 b0 hr0 hn0 hc0 hd0 Y1 k1 y1 b1 hr1 hn1 hc1 hd1).mono fun e W' ⟨he, hg⟩ => ?_
  subst he
  exact ⟨_, rfl, post_of_below (pa := p0 ++ (p1 ++ ([]))) (pv := []) hW' (fun _ _ _ => (trodAll_cons_mk (shut_bool Tryz.underlying4 _) trodAll_mk0)) (fun sp hsp => (trodAll_cons_mk (arg_stays laidOut (by kernel_rfl) (of_decide_eq_true (by kernel_rfl)) h0 hg (fun x hx => hW'.lt x (by simp [hx])) sp (fun x hx => hsp x (by simp [hx]))) (trodAll_cons_mk (arg_stays laidOut (by kernel_rfl) (of_decide_eq_true (by kernel_rfl)) h1 hg (fun x hx => hW'.lt x (by simp [hx])) sp (fun x hx => hsp x (by simp [hx]))) trodAll_mk0))) (fun _ _ => rfl) rfl
    hg (ok_one (by kernel_rfl) rfl (okWide_bool_mk Tryz.underlying4 _))⟩

/-- A world for the witness: the listed variables hold what the program lays. -/
noncomputable def laidWorld (os : Os) : World := World.laidAll Tryz.prog os Rows.rangesPiecesUptoRow.laid
set_option maxRecDepth 1000000 in
theorem laid_met (os : Os) : laidMet Tryz.prog Rows.rangesPiecesUptoRow.laid ((laidWorld os).forCall (fun _ _ => 0) ⟨#[], #[.slice none 0 0, .slice none 0 0], []⟩).memory :=
  laidMet_laidAll _ (by kernel_rfl) (by kernel_rfl)

theorem reads (os : Os) {H : Type} (enc : TypeId × Value → H) : ∃ places, DataW.whole enc Tryz.prog ((laidWorld os).forCall (fun _ _ => 0) ⟨#[], #[.slice none 0 0, .slice none 0 0], []⟩).memory Tryz.f7.params.toList Rows.rangesPiecesSpec.vars false #[.slice none 0 0, .slice none 0 0].toList 8 = some ([.nil, .nil], [], places) :=
  ⟨[], by kernel_rfl⟩

set_option maxRecDepth 100000 in
theorem liftedUpto (os : Os) (started : os.Started) (H : Type) (enc : TypeId × Value → H) (F : Stop.Interp) :
    ReturnsInHanded {} Tryz.checked os 7 .any ((Rows.OpenSpec.upto Rows.rangesPiecesSpec).preRow enc Tryz.prog Tryz.f7 Rows.rangesPiecesUptoRow.domain false Rows.rangesPiecesUptoRow.laid) (((Rows.OpenSpec.upto Rows.rangesPiecesSpec).at F).post enc Tryz.prog Tryz.f7 false true false false) := by
  obtain ⟨places, hx⟩ := reads os enc
  refine returnsInHanded_of_row (C := Tryz.checked) (s := Rows.OpenSpec.upto Rows.rangesPiecesSpec) own started (by kernel_rfl) Tryz.func7
    (witness_row_atRef (enc := enc) (C := Tryz.checked) false (laidWorld os) #[.slice none 0 0, .slice none 0 0] (World.laidAll_os _ _ _) (by kernel_rfl) (by kernel_rfl) (by kernel_rfl)
      (OpenSpec.preRow_of_cond 8 hx (by kernel_rfl) (fun k hk => by cases hk; kernel_rfl) (by kernel_rfl) (laid_met os))) ?_
  intro W base args ds gs before hval hW g1 hcond g2 g3 g4 g5
  exact contract H enc W base args ds gs before hval hW (hcond _ rfl) (by first | exact tab_of g2 | exact tab_of g3 | exact tab_of g4 | exact tab_of g5 | exact tab_of g1) (by first | exact maxl_of g4 | exact maxl_of g3 | exact maxl_of g2 | exact maxl_of g5 | exact maxl_of g1)

theorem saidUpto : Rows.RangesPiecesUptoSaid :=
  OpenClaim.holds_of_cond 7 Tryz.f7 rfl rfl rfl rfl rfl rfl rfl ⟨rfl, rfl, rfl, rfl, rfl⟩ rfl rfl rfl rfl rfl (by kernel_rfl) Tryz.func7 (by kernel_rfl)
    (of_decide_eq_true (by kernel_rfl)) (by unfold Func.isWrapper; first | (rw [if_pos (by decide +kernel)]; kernel_rfl) | (rw [if_neg (by decide +kernel)]; exact ⟨rfl, rfl⟩))
    (fun os started H enc _ F => by rw [OpenClaim.pre_eq_preRow]; exact liftedUpto os started H enc F)

theorem plain (f : FuncId) (fn : Func) (hf : Tryz.pinned.checked.prog.funcNamed "conduit/conduitlaw19.RangesPieces" = some f) (hfn : Tryz.pinned.checked.prog.funcs[f]? = some fn) :
    true = Tryz.pinned.checked.prog.looks [] ∧ ∀ (j : Nat) t, fn.params[j]? = some t → Tryz.pinned.checked.prog.wantsStandIn t = false := by
  obtain rfl : f = 7 := Option.some.inj ((show Tryz.prog.funcNamed "conduit/conduitlaw19.RangesPieces" = some 7 by kernel_rfl).symm.trans hf) |>.symm
  obtain rfl : fn = Tryz.f7 := (Option.some.inj (Tryz.func7.symm.trans hfn)).symm
  refine ⟨by kernel_rfl, fun j t ht => ?_⟩
  rw [Tryz.params7] at ht
  have hm := Array.mem_of_getElem? ht
  simp only [List.mem_toArray, List.mem_cons, List.not_mem_nil, or_false] at hm
  rcases hm with rfl | rfl
  · exact (show Tryz.prog.wantsStandIn 32 = false by kernel_rfl)
  · exact (show Tryz.prog.wantsStandIn 52 = false by kernel_rfl)

theorem proved : Rows.RangesPiecesUptoCardSaid :=
  Claim7.holds_tied_plain_at .later [] _ _ _ _ saidUpto (fun _ h => by cases h) (by kernel_rfl) (fun _ h => by cases h) rangesPiecesUpto_row_tie rfl ⟨rfl, rfl⟩ (by kernel_rfl) rfl plain (by kernel_rfl)
end Go.Proofs.YtcaekfebnhedpaaGreatDoor.rangesPieces
