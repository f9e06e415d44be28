/- RangesSingle: for every input within the second form's bound the law answers true and leaves its arguments as they were. Condition: the bulk of the arguments at most 1048576. -/
import Derived.Test.YtcaekfebnhedpaaGreatDoorCards
import Derived.Test.YtcaekfebnhedpaaGreatDoorTie
import Derived.Test.YtcaekfebnhedpaaGreatDoorM39
import Derived.Test.YtcaekfebnhedpaaGreatDoorM41
import Derived.WalkKit
import Derived.ProofKit
import Derived.OpenShut
import Derived.JoinedCond
import Derived.Deep.DeepHandedRow
import Derived.Deep.DeepWitnessRowRef
import Derived.Lib.LaidTab
import Derived.Stop.LaidErr
import Derived.Lay
set_option linter.unusedVariables false
set_option linter.unusedSimpArgs false
set_option maxRecDepth 100000
namespace Go.Proofs.YtcaekfebnhedpaaGreatDoor.rangesSingle
open Go.ChangeShapes Go.WideShapes Go.ChangeAt Go.RowKit

set_option maxRecDepth 100000
theorem withoutF_le9 (l : List Fld) (names : List (List UInt8)) : (withoutF l names).length ≤ l.length := List.length_filter_le _ _
theorem bb_lit (l m : List UInt8) : (⟨l.toArray⟩ : ByteArray) ++ bs m = bs (l ++ m) := bs_append l m
theorem put_get (l : List Fld) (nm v : List UInt8) : valuesL (Rg.putF l nm v) nm = [v] := by
  unfold Rg.putF valuesL withoutF
  rw [List.filter_append, List.filter_filter]
  have h1 : l.filter (fun f => isB f nm && !([nm].any (isB f))) = [] := by
    rw [List.filter_eq_nil_iff]
    intro f _
    simp
  have h2 : isB (nm, v) nm = true := by unfold isB; simp
  rw [h1, List.nil_append, List.filter_cons, if_pos h2]; rfl
theorem put_none (l : List Fld) (nm v cl : List UInt8) (h : fold nm ≠ fold cl) : valuesL (Rg.putF (withoutF l [cl]) nm v) cl = [] := by
  unfold Rg.putF valuesL withoutF
  rw [List.filter_append, List.filter_filter, List.filter_filter]
  have h1 : l.filter (fun f => isB f cl && !([nm].any (isB f)) && !([cl].any (isB f))) = [] := by
    rw [List.filter_eq_nil_iff]
    intro f _
    simp
    intro h _
    exact h
  have h2 : isB (nm, v) cl = false := by unfold isB; simpa using h
  rw [h1, List.nil_append, List.filter_cons, if_neg (by rw [h2]; decide)]; rfl
set_option maxHeartbeats 8000000 in
theorem walk (w : World) (ht : Tab w) (hM : MaxL w) (Y : Option Addr) (k e : Nat) (b : List UInt8) (hb : RdB w Y k b) (hk : k ≤ 1048576) (hke : k ≤ e) (hee : e ≤ maxLen) (x : Int) (hx1 : -9223372036854775808 ≤ x) (hx2 : x ≤ 9223372036854775807) (y : Int) (hy1 : -9223372036854775808 ≤ y) (hy2 : y ≤ 9223372036854775807)
    (A : Option Addr) (n c : Nat) (l : List Fld) (hl : RdF w A n l) (hn : n + 1 ≤ 1048576) (hf : ∀ f ∈ l, f.1.length ≤ 1048576 ∧ f.2.length ≤ 1048576) (hs : Rg.sumF l ≤ 1048576) :
    Calls Tryz.prog 6 #[.slice Y k e, .int .i64 x, .int .i64 y, .slice A n c] w fun x w' => x = .returned (.bool true) ∧ Below w.heap.size w w' := by
  have hA := Lib.hid fun W hT hX => alive19_any W hT hX
  have hee2 : (e : Int) ≤ 9223372036854775807 := by unfold maxLen at hee; omega
  by_cases hbad : x < 0 ∨ y < x ∨ (k : Int) ≤ y
  · have HB : (x < 0) ∨ (¬ x < 0 ∧ y < x) ∨ (¬ x < 0 ∧ ¬ y < x ∧ (k : Int) ≤ y) := by omega
    rcases HB with h | ⟨h1, h⟩ | ⟨h1, h2, h⟩
    all_goals
      clear hbad hl hb hf
      go_enter Tryz.func6, Tryz.ntmps6
      go_wp2_with fail
      refine (hA.out _ ht hM).mono ?_
      rintro e w1 ⟨rfl, hb1⟩
      clear hA
      go_wp2
      go_ret
      exact ⟨rfl, hb1⟩
  obtain ⟨i, rfl⟩ : ∃ i : Nat, x = i := ⟨x.toNat, by omega⟩
  obtain ⟨j, rfl⟩ : ∃ j : Nat, y = j := ⟨y.toNat, by omega⟩
  have hij : (i : Int) ≤ (j : Int) := by omega
  have hjk : (j : Int) < (k : Int) := by omega
  clear hbad hx1 hx2 hy1 hy2
  have hbl := hb.1
  have HSP := Lib.hid (Rg.rng_two [66, 121, 116, 101, 115, 61] (k := k) (a := i) (b := j) rfl (by decide) (by omega) (by omega) (by omega) (by omega))
  rw [show min ((j : Nat) : Int) ((k : Int) - 1) = (j : Int) by omega] at HSP
  have HPL : Hid (∀ (D1 D2 D3 : List UInt8), D1 = Lib.decDigits i → D2 = Lib.decDigits j → D3 = Lib.decDigits k → Rg.placeL ((i : Int), (j : Int)) k = Rg.bytT ++ D1 ++ [45] ++ D2 ++ [47] ++ D3) := Lib.hid fun D1 D2 D3 h1 h2 h3 => by subst h1 h2 h3; rfl
  have hL1 := dec_len (k := i) (by omega)
  have hL2 := dec_len (k := j) (by omega)
  have hL3 := dec_len (k := k) (by omega)
  have HSH1 := Lib.hid fun W => show_pos i W (by omega)
  have HSH2 := Lib.hid fun W => show_pos j W (by omega)
  have HSH3 := Lib.hid fun W => show_pos k W (by omega)
  have HP2 := Lib.hid (HPL.out _ _ _ rfl rfl rfl)
  clear HPL
  generalize Lib.decDigits i = D1 at *
  generalize Lib.decDigits j = D2 at *
  generalize Lib.decDigits k = D3 at *
  have hcat : ((((⟨#[66, 121, 116, 101, 115, 61]⟩ : ByteArray) ++ bs D1) ++ ⟨#[45]⟩) ++ bs D2) = bs ([66, 121, 116, 101, 115, 61] ++ (D1 ++ 45 :: D2)) := by
    rw [show (⟨#[66, 121, 116, 101, 115, 61]⟩ : ByteArray) = bs [66, 121, 116, 101, 115, 61] from rfl, show (⟨#[45]⟩ : ByteArray) = bs [45] from rfl, bs_append, bs_append, bs_append]
    congr 1; simp
  have hcat2 : ((((((⟨#[98, 121, 116, 101, 115, 32]⟩ : ByteArray) ++ bs D1) ++ ⟨#[45]⟩) ++ bs D2) ++ ⟨#[47]⟩) ++ bs D3) = bs (Rg.bytT ++ D1 ++ [45] ++ D2 ++ [47] ++ D3) := by
    rw [show (⟨#[98, 121, 116, 101, 115, 32]⟩ : ByteArray) = bs Rg.bytT from rfl, show (⟨#[45]⟩ : ByteArray) = bs [45] from rfl, show (⟨#[47]⟩ : ByteArray) = bs [47] from rfl, bs_append, bs_append, bs_append, bs_append, bs_append]
  rw [← HP2.out] at hcat2
  have hpll : (Rg.placeL ((i : Int), (j : Int)) k).length ≤ 100 := by rw [HP2.out]; simp; omega
  have HONE0 : Hid (Rg.oneA l b ((i : Int), (j : Int)) = ⟨206, Rg.partT, Rg.putF (withoutF l [Rg.clP]) Rg.crP (Rg.placeL ((i : Int), (j : Int)) k), (b.drop i).take (j + 1 - i)⟩) := Lib.hid (by unfold Rg.oneA Rg.pieceL; rw [hbl]; rfl)
  generalize Rg.placeL ((i : Int), (j : Int)) k = PT at *
  have HTL : Hid (([66, 121, 116, 101, 115, 61] ++ (D1 ++ 45 :: D2)).length ≤ 60) := Lib.hid (by simp; omega)
  generalize hTX : [66, 121, 116, 101, 115, 61] ++ (D1 ++ 45 :: D2) = TX at *
  clear hTX
  have hHG := Rg.one_has (nm := Rg.rngR) (l := l) (b := b) (p := ((i : Int), (j : Int))) rfl (by rw [hbl]; exact HSP.out) (by decide)
  have hC1 := hHG.1
  have hC2 := hHG.2
  clear hHG
  have HHG := Lib.hid hC1
  have HHA := Lib.hid hC2
  clear hC1 hC2
  have HONE : Hid (Rg.oneA l b ((i : Int), (j : Int)) = ⟨206, Rg.partT, Rg.putF (withoutF l [Rg.clP]) Rg.crP PT, (b.drop i).take (j + 1 - i)⟩) := HONE0
  go_enter Tryz.func6, Tryz.ntmps6
  go_wp2_with fail
  refine (hA.out _ ht hM).mono ?_
  rintro xx w1 ⟨rfl, hb1⟩
  clear hA
  go_wp2_with fail
  refine (HSH1.out _).mono ?_
  rintro xx w2 ⟨rfl, hb2⟩
  replace hb1 := bnext hb1 hb2 hb1.size
  clear hb2
  go_wp2_with fail
  refine (HSH2.out _).mono ?_
  rintro xx w3 ⟨rfl, hb3⟩
  replace hb1 := bnext hb1 hb3 hb1.size
  clear hb3
  have hal := alloc_below w3 (.cells #[.string (bs Rg.rngR), .string (bs TX)] 46)
  have hfd := one_rdF w3 Rg.rngR TX 46
  have hbA := bnext hb1 hal hb1.size
  have hC := copyFields_own A n c l _ (hl.step hbA) (by omega)
  go_wp2_with fail
  refine hC.mono ?_
  rintro xx w4 ⟨A4, n4, c4, rfl, hF4, hb4⟩
  clear hC
  have hfd4 := hfd.step hb4
  replace hbA := bnext hbA hb4 hbA.size
  have hF4r := hF4.rd
  clear hal hfd hb4 hF4 hb1
  have hC := copyBytes_own Y k e b w4 (hb.step hbA) (by omega)
  go_wp2_with fail
  refine hC.mono ?_
  rintro xx w5 ⟨Y5, k5, e5, rfl, hB5, hb5⟩
  clear hC
  have hfd5 := hfd4.step hb5
  have hF5 := hF4r.step hb5
  replace hbA := bnext hbA hb5 hbA.size
  obtain rfl : k = k5 := by have := hB5.rd.1; omega
  have hc5 := hB5.capB
  have hB5r := hB5.rd
  clear hfd4 hF4r hb5 hB5
  have hn4 : n4 ≤ 1048575 := by have := hF5.1; have := hl.1; omega
  have hC := apply_one (some ⟨w3.heap.size, 0, none⟩) 1 1 [(Rg.rngR, TX)] 200 [] 1 A4 n4 c4 l Y5 k e5 b w5 (tab_b ht hbA) (maxl_b hM hbA) hfd5 (by omega) (by intro f hf9; rw [List.mem_singleton] at hf9; subst hf9; exact ⟨by show Rg.rngR.length ≤ _; decide, by show TX.length ≤ _; have := HTL.out; omega⟩) (by rw [HHG.out]; have := HTL.out; omega) hF5 (by omega) hf hB5r (by omega) hc5.1 hc5.2 ((i : Int), (j : Int)) HHA.out (by rw [HHG.out, hbl]; exact HSP.out) ⟨by omega, hij, by rw [hbl]; exact hjk⟩
  unfold ApOut respV at hC
  rw [HONE.out] at hC
  dsimp only at hC
  clear HONE HHG HHA HSP hfd5 hF5 hB5r hc5
  have HPV := Lib.hid (put_get (withoutF l [Rg.clP]) Rg.crP PT)
  have HPN := Lib.hid (put_none l Rg.crP PT Rg.clP (by decide))
  have HPW : Hid ((Rg.putF (withoutF l [Rg.clP]) Rg.crP PT).length ≤ n + 1) := Lib.hid (by
    unfold Rg.putF
    rw [List.length_append]
    have h1 := withoutF_le9 (withoutF l [Rg.clP]) [Rg.crP]
    have h2 := withoutF_le9 l [Rg.clP]
    have := hl.1
    simp only [List.length_cons, List.length_nil]; omega)
  have HPS : Hid (FlenS (Rg.putF (withoutF l [Rg.clP]) Rg.crP PT)) := Lib.hid (fun f hf9 => by
    unfold Rg.putF at hf9
    rcases List.mem_append.1 hf9 with h | h
    · exact hf f (List.mem_filter.1 (List.mem_filter.1 h).1).1
    · rw [List.mem_singleton] at h; subst h; exact ⟨by show Rg.crP.length ≤ _; decide, by show PT.length ≤ _; omega⟩)
  generalize Rg.putF (withoutF l [Rg.clP]) Rg.crP PT = PF at *
  obtain ⟨gb, ob, rfl, hgb, -⟩ := hb.2.2 (by omega)
  have HPR : Hid (∀ W, Below w.heap.size w W → RdB W (some ⟨gb, ob + i, none⟩) (j + 1 - i) ((b.drop i).take (j + 1 - i))) := Lib.hid fun W hW => RdB.sub (hb.step hW) (by omega) (by omega)
  generalize (b.drop i).take (j + 1 - i) = PC at *
  clear hl hf hb hM
  go_wp2_with fail
  refine hC.mono ?_
  rintro xx w6 ⟨A6, n6, c6, Y6, k6, e6, rfl, hF6, hB6, hb6⟩
  clear hC
  replace hbA := bnext hbA hb6 hbA.size
  have hal := alloc_below w6 (.cells #[.int .i64 206, .string (bs Rg.partT), .int .i64 1, .slice A6 n6 c6] 31)
  have hbx := heap_alloc_new w6 (.cells #[.int .i64 206, .string (bs Rg.partT), .int .i64 1, .slice A6 n6 c6] 31)
  have hF7 := hF6.rd.step hal
  have hB7 := hB6.rd.step hal
  have hbB := bnext hbA hal hbA.size
  have hn6 : n6 ≤ 1048576 := by have := HPW.out; have := hF7.1; omega
  have hlt : w6.heap.size < (w6.alloc (.cells #[.int .i64 206, .string (bs Rg.partT), .int .i64 1, .slice A6 n6 c6] 31)).heap.size := by simp
  clear hF6 hB6 hb6 hbA hal
  go_upto_region 7 with fail
  generalize w6.alloc (.cells #[.int .i64 206, .string (bs Rg.partT), .int .i64 1, .slice A6 n6 c6] 31) = w7 at *
  generalize w6.heap.size = g7 at *
  obtain ⟨c0, c1, c2, c3, -⟩ := row_facts4 hbx
  have hC := get_any A6 n6 c6 PF Rg.crP w7 hF7 hn6 HPS.out (by decide)
  rw [HPV.out] at hC
  rw [show Lib.join [PT] [44, 32] = PT from Lib.join_one _ _] at hC
  go_wp2_with fail
  refine hC.mono ?_
  rintro xx w8 ⟨rfl, hb8⟩
  clear hC c0 c1 c2 c3 HPV
  have hbx8 := row_keep hbx hb8
  have hF8 := hF7.step hb8
  have hB8 := hB7.step hb8
  have hbC := bnext hbB hb8 hbB.size
  clear hbx hF7 hB7 hbB hb8 hlt
  obtain ⟨c0, c1, c2, c3, -⟩ := row_facts4 hbx8
  go_wp2_with fail
  refine (HSH1.out _).mono ?_
  rintro xx w9 ⟨rfl, hb9⟩
  have hbx9 := row_keep hbx8 hb9
  have hF9 := hF8.step hb9
  have hB9 := hB8.step hb9
  have hbD := bnext hbC hb9 hbC.size
  clear hbx8 hF8 hB8 hbC hb9 c0 c1 c2 c3 HSH1
  obtain ⟨c0, c1, c2, c3, -⟩ := row_facts4 hbx9
  go_wp2_with fail
  refine (HSH2.out _).mono ?_
  rintro xx w10 ⟨rfl, hb10⟩
  have hbx10 := row_keep hbx9 hb10
  have hF10 := hF9.step hb10
  have hB10 := hB9.step hb10
  have hbE := bnext hbD hb10 hbD.size
  clear hbx9 hF9 hB9 hbD hb10 c0 c1 c2 c3 HSH2
  obtain ⟨c0, c1, c2, c3, -⟩ := row_facts4 hbx10
  go_wp2_with fail
  refine (HSH3.out _).mono ?_
  rintro xx w11 ⟨rfl, hb11⟩
  have hbx11 := row_keep hbx10 hb11
  have hF11 := hF10.step hb11
  have hB11 := hB10.step hb11
  have hbF := bnext hbE hb11 hbE.size
  clear hbx10 hF10 hB10 hbE hb11 c0 c1 c2 c3 HSH3
  obtain ⟨c0, c1, c2, c3, -⟩ := row_facts4 hbx11
  have hPR := HPR.out w11 hbF
  have hk6 : k6 ≤ 1048576 := by have h1 := hB11.1; have h2 := hPR.1; omega
  have hC := fun cc => sameBytes_any Y6 (some ⟨gb, ob + i, none⟩) k6 (j + 1 - i) e6 cc PC PC w11 hB11 hPR (by omega) (by omega)
  rw [show (PC == PC) = true by simp] at hC
  clear HPR
  go_wp2_with fail
  refine (hC _).mono ?_
  rintro xx w12 ⟨rfl, hb12⟩
  have hbx12 := row_keep hbx11 hb12
  have hF12 := hF11.step hb12
  have hbG := bnext hbF hb12 hbF.size
  clear hbx11 hF11 hB11 hbF hb12 c0 c1 c2 c3 hC hPR
  obtain ⟨c0, c1, c2, c3, -⟩ := row_facts4 hbx12
  have hC := values_own A6 n6 c6 PF Rg.clP w12 hF12 (by omega) HPS.out.ok (by decide)
  rw [HPN.out] at hC
  go_wp2_with fail
  refine hC.mono ?_
  rintro xx w13 ⟨A13, n13, c13, rfl, hS, hb13⟩
  have hn13 : n13 = 0 := by have := hS.rd.1; simpa using this.symm
  subst hn13
  have hbH := bnext hbG hb13 hbG.size
  clear hC hS hb13
  go_wp2
  go_ret
  exact ⟨rfl, hbH⟩

theorem tab_of {W : World} (h : laidMet Tryz.prog Rows.rangesSingleUptoRow.laid W) : Tab W :=
  Lib.tabIs_of_head (t := 167) (e := 137) (n := 20) (g := 2) (by kernel_rfl) (by kernel_rfl) (by kernel_rfl) (by kernel_rfl) (by kernel_rfl) (by kernel_rfl) ((h).tail).tail
theorem own : ownKnob Tryz.prog.godebug = none := by kernel_rfl
theorem contract (H : Type) (enc : TypeId × Value → H) (W : World) (base : Nat) (args : Array Value) (ds gs : List (DataW H)) (before : List MemPlace)
    (hval : ∀ (j : Nat) t v, Tryz.f6.params[j]? = some t → args[j]? = some v → Value.okWide Tryz.prog W .any base t v)
    (hW : DataW.Whole enc Tryz.prog Tryz.f6.params.toList Rows.rangesSingleSpec.vars false W args.toList ds gs before) (hk : Rows.uptoSmall H (ds ++ gs) = true) (htab : Tab W) (hmax : MaxL W) :
    Calls Tryz.prog 6 args W fun e W' => ∃ v, e = .returned v ∧ Rows.rangesSingleSpec.post enc Tryz.prog Tryz.f6 false true false false W args v W' := by
  have hW' := hW
  obtain ⟨p, q, hA0, hV, rfl, hfz, hnd⟩ := hW
  have hA : DataW.TrodAll enc Tryz.prog W 0 (fun _ => true) true Tryz.f6.params.toList args.toList ds p := hA0
  rw [Tryz.params6] at hA hval
  obtain ⟨v0, vs0, d0, ds0, p0, q0, hargs, rfl, rfl, h0, r0⟩ := trodAll_cons hA
  obtain ⟨v1, vs1, d1, ds1, p1, q1, rfl, rfl, rfl, h1, r1⟩ := trodAll_cons r0
  obtain ⟨v2, vs2, d2, ds2, p2, q2, rfl, rfl, rfl, h2, r2⟩ := trodAll_cons r1
  obtain ⟨v3, vs3, d3, ds3, p3, q3, rfl, rfl, rfl, h3, r3⟩ := trodAll_cons r2
  obtain ⟨rfl, rfl, rfl⟩ := trodAll_nil r3
  obtain rfl : args = #[v0, v1, v2, v3] := by cases args; simp_all
  obtain ⟨rfl, rfl⟩ := trodVars_none hV
  have hall := bulks.bound hk
  simp only [List.append_nil, Rows.uptoBulkAll] at hall
  have hb0 : Rows.uptoBulk d0 ≤ 1048576 := by omega
  have hb1 : Rows.uptoBulk d1 ≤ 1048576 := by omega
  have hb2 : Rows.uptoBulk d2 ≤ 1048576 := by omega
  have hb3 : Rows.uptoBulk d3 ≤ 1048576 := by omega
  clear hall
  obtain ⟨Y0, k0, y0, b0, rfl, hr0, hn0, hc0, hd0⟩ := opBytesA (hval 0 32 v0 rfl rfl) h0 hb0
  obtain ⟨i1, rfl, hi1, hj1⟩ := opI (hval 1 3 v1 rfl rfl) h1
  obtain ⟨i2, rfl, hi2, hj2⟩ := opI (hval 2 3 v2 rfl rfl) h2
  obtain ⟨A3, n3, c3, l3, rfl, hr3, hn3, hf3, hc3, hd3, hs3⟩ := opFS (hval 3 29 v3 rfl rfl) h3 hb3
  clear hA0
  refine (walk W htab hmax Y0 k0 y0 b0 hr0 hn0 hc0 hd0 i1 hi1 hj1 i2 hi2 hj2 A3 n3 c3 l3 hr3 hn3 hf3 hs3).mono fun e W' ⟨he, hg⟩ => ?_
  subst he
  exact ⟨_, rfl, post_of_below (pa := p0 ++ (p1 ++ (p2 ++ (p3 ++ ([]))))) (pv := []) hW' (fun _ _ _ => (trodAll_cons_mk (shut_bool Tryz.underlying4 _) trodAll_mk0)) (fun sp hsp => (trodAll_cons_mk (arg_stays laidOut (by kernel_rfl) (of_decide_eq_true (by kernel_rfl)) h0 hg (fun x hx => hW'.lt x (by simp [hx])) sp (fun x hx => hsp x (by simp [hx]))) (trodAll_cons_mk (arg_stays laidOut (by kernel_rfl) (of_decide_eq_true (by kernel_rfl)) h1 hg (fun x hx => hW'.lt x (by simp [hx])) sp (fun x hx => hsp x (by simp [hx]))) (trodAll_cons_mk (arg_stays laidOut (by kernel_rfl) (of_decide_eq_true (by kernel_rfl)) h2 hg (fun x hx => hW'.lt x (by simp [hx])) sp (fun x hx => hsp x (by simp [hx]))) (trodAll_cons_mk (arg_stays laidOut (by kernel_rfl) (of_decide_eq_true (by kernel_rfl)) h3 hg (fun x hx => hW'.lt x (by simp [hx])) sp (fun x hx => hsp x (by simp [hx]))) trodAll_mk0))))) (fun _ _ => rfl) rfl
    hg (ok_one (by kernel_rfl) rfl (okWide_bool_mk Tryz.underlying4 _))⟩

/-- A world for the witness: the listed variables hold what the program lays. -/
noncomputable def laidWorld (os : Os) : World := World.laidAll Tryz.prog os Rows.rangesSingleUptoRow.laid
set_option maxRecDepth 1000000 in
theorem laid_met (os : Os) : laidMet Tryz.prog Rows.rangesSingleUptoRow.laid ((laidWorld os).forCall (fun _ _ => 0) ⟨#[], #[.slice none 0 0, .int .i64 0, .int .i64 0, .slice none 0 0], []⟩).memory :=
  laidMet_laidAll _ (by kernel_rfl) (by kernel_rfl)

theorem reads (os : Os) {H : Type} (enc : TypeId × Value → H) : ∃ places, DataW.whole enc Tryz.prog ((laidWorld os).forCall (fun _ _ => 0) ⟨#[], #[.slice none 0 0, .int .i64 0, .int .i64 0, .slice none 0 0], []⟩).memory Tryz.f6.params.toList Rows.rangesSingleSpec.vars false #[.slice none 0 0, .int .i64 0, .int .i64 0, .slice none 0 0].toList 8 = some ([.nil, .lit (.int .i64 0), .lit (.int .i64 0), .nil], [], places) :=
  ⟨[], by kernel_rfl⟩

set_option maxRecDepth 100000 in
theorem liftedUpto (os : Os) (started : os.Started) (H : Type) (enc : TypeId × Value → H) (F : Stop.Interp) :
    ReturnsInHanded {} Tryz.checked os 6 .any ((Rows.OpenSpec.upto Rows.rangesSingleSpec).preRow enc Tryz.prog Tryz.f6 Rows.rangesSingleUptoRow.domain false Rows.rangesSingleUptoRow.laid) (((Rows.OpenSpec.upto Rows.rangesSingleSpec).at F).post enc Tryz.prog Tryz.f6 false true false false) := by
  obtain ⟨places, hx⟩ := reads os enc
  refine returnsInHanded_of_row (C := Tryz.checked) (s := Rows.OpenSpec.upto Rows.rangesSingleSpec) own started (by kernel_rfl) Tryz.func6
    (witness_row_atRef (enc := enc) (C := Tryz.checked) false (laidWorld os) #[.slice none 0 0, .int .i64 0, .int .i64 0, .slice none 0 0] (World.laidAll_os _ _ _) (by kernel_rfl) (by kernel_rfl) (by kernel_rfl)
      (OpenSpec.preRow_of_cond 8 hx (by kernel_rfl) (fun k hk => by cases hk; kernel_rfl) (by kernel_rfl) (laid_met os))) ?_
  intro W base args ds gs before hval hW g1 hcond g2 g3 g4 g5
  exact contract H enc W base args ds gs before hval hW (hcond _ rfl) (by first | exact tab_of g2 | exact tab_of g3 | exact tab_of g4 | exact tab_of g5 | exact tab_of g1) (by first | exact maxl_of g4 | exact maxl_of g3 | exact maxl_of g2 | exact maxl_of g5 | exact maxl_of g1)

theorem saidUpto : Rows.RangesSingleUptoSaid :=
  OpenClaim.holds_of_cond 6 Tryz.f6 rfl rfl rfl rfl rfl rfl rfl ⟨rfl, rfl, rfl, rfl, rfl⟩ rfl rfl rfl rfl rfl (by kernel_rfl) Tryz.func6 (by kernel_rfl)
    (of_decide_eq_true (by kernel_rfl)) (by unfold Func.isWrapper; first | (rw [if_pos (by decide +kernel)]; kernel_rfl) | (rw [if_neg (by decide +kernel)]; exact ⟨rfl, rfl⟩))
    (fun os started H enc _ F => by rw [OpenClaim.pre_eq_preRow]; exact liftedUpto os started H enc F)

theorem plain (f : FuncId) (fn : Func) (hf : Tryz.pinned.checked.prog.funcNamed "conduit/conduitlaw19.RangesSingle" = some f) (hfn : Tryz.pinned.checked.prog.funcs[f]? = some fn) :
    true = Tryz.pinned.checked.prog.looks [] ∧ ∀ (j : Nat) t, fn.params[j]? = some t → Tryz.pinned.checked.prog.wantsStandIn t = false := by
  obtain rfl : f = 6 := Option.some.inj ((show Tryz.prog.funcNamed "conduit/conduitlaw19.RangesSingle" = some 6 by kernel_rfl).symm.trans hf) |>.symm
  obtain rfl : fn = Tryz.f6 := (Option.some.inj (Tryz.func6.symm.trans hfn)).symm
  refine ⟨by kernel_rfl, fun j t ht => ?_⟩
  rw [Tryz.params6] at ht
  have hm := Array.mem_of_getElem? ht
  simp only [List.mem_toArray, List.mem_cons, List.not_mem_nil, or_false] at hm
  rcases hm with rfl | rfl | rfl | rfl
  · exact (show Tryz.prog.wantsStandIn 32 = false by kernel_rfl)
  · exact (show Tryz.prog.wantsStandIn 3 = false by kernel_rfl)
  · exact (show Tryz.prog.wantsStandIn 3 = false by kernel_rfl)
  · exact (show Tryz.prog.wantsStandIn 29 = false by kernel_rfl)

theorem proved : Rows.RangesSingleUptoCardSaid :=
  Claim7.holds_tied_plain_at .later [] _ _ _ _ saidUpto (fun _ h => by cases h) (by kernel_rfl) (fun _ h => by cases h) rangesSingleUpto_row_tie rfl ⟨rfl, rfl⟩ (by kernel_rfl) rfl plain (by kernel_rfl)
end Go.Proofs.YtcaekfebnhedpaaGreatDoor.rangesSingle
