/- AclDefault: for every input within the second form's bound the law answers true and leaves its arguments as they were. Condition: the bulk of the arguments at most 1048576. -/
import Derived.Test.YtgkphjbcaidcpaaGreatDoorCards
import Derived.Test.YtgkphjbcaidcpaaGreatDoorTie
import Derived.Test.YtgkphjbcaidcpaaGreatDoorM24
import Derived.Test.YtgkphjbcaidcpaaGreatDoorM25
import Derived.WalkKit
import Derived.ProofKit
import Derived.OpenShut
import Derived.JoinedCond
import Derived.Deep.DeepHandedRow
import Derived.Deep.DeepWitnessRowRef
import Derived.Lib.LaidTab
import Derived.Lay
set_option linter.unusedVariables false
set_option linter.unusedSimpArgs false
set_option maxRecDepth 100000
namespace Go.Proofs.YtgkphjbcaidcpaaGreatDoor.aclDefault
open Go.ChangeShapes Go.WideShapes Go.ChangeAt Go.RowKit

theorem own_lit1 (w : World) (v : Value) (t : TypeId) : (w.alloc (.cells #[v] t)).ownsRow w.heap.size t 1 (.slice (some ⟨w.heap.size, 0, none⟩) 1 1) 1 [v] :=
  ⟨rfl, .inr ⟨w.heap.size, 1, #[v], rfl, Nat.le_refl _, heap_alloc_new w _, Nat.le_refl _, by decide, rfl, by simp⟩⟩
set_option maxRecDepth 100000 in
set_option maxHeartbeats 4000000 in
theorem walk (w : World) (hM : MaxL w) (A : Option Addr) (n c : Nat) (l : List (List UInt8)) (hl : RdS w A n l) (hn : n ≤ 1048576) (hj : (Ac.join l).length ≤ 1048576) (hs : ∀ s ∈ l, s.length ≤ 1048576) (a : Ac.Ask) (ha : a.host.length ≤ 1048576 ∧ a.meth.length ≤ 1048576 ∧ a.path.length ≤ 1048576 ∧ -9223372036854775808 ≤ a.now ∧ a.now ≤ 9223372036854775807) :
    Calls Tryz.prog 4 #[.slice A n c, askV a] w fun e w' => e = .returned (.bool true) ∧ Below w.heap.size w w' := by
  have hAl := Lib.hid fun W hM => alive_any W hM
  have HAsk : Hid (AskOK a) := Lib.hid ⟨by omega, by omega, by omega, ha.2.2.2.1, ha.2.2.2.2⟩
  have hlen : l.length = n := hl.1
  have j2 : (Ac.join (l ++ [Ac.allowT])).length ≤ 4194304 := by
    rw [Ac.join_snoc]
    simp only [List.length_append]
    have : (if 0 < l.length then ([10] : List UInt8) else []).length ≤ 1 := by split <;> simp
    have : Ac.allowT.length = 5 := rfl
    omega
  have j3 : (Ac.join (Ac.denyT :: l)).length ≤ 4194304 := by
    cases l with
    | nil => decide
    | cons x r =>
      rw [Ac.join_cons, List.length_append, List.length_cons]
      have : Ac.denyT.length = 4 := rfl
      omega
  have J2 := Lib.hid j2
  have J3 := Lib.hid j3
  have J1 := Lib.hid hj
  have HRL := Lib.hid hl
  have HSL := Lib.hid (fun s h => Nat.le_trans (hs s h) (by omega : 1048576 ≤ 4194304))
  have HLEN := Lib.hid hlen
  have hal := alloc_below w (.cells #[.int .i64 a.src, .string (bs a.host), .int .i64 a.port, .string (bs a.meth), .string (bs a.path), .int .i64 a.now] 37)
  have hr0 := heap_alloc_new w (.cells #[.int .i64 a.src, .string (bs a.host), .int .i64 a.port, .string (bs a.meth), .string (bs a.path), .int .i64 a.now] 37)
  have hM1 := maxl_b hM hal
  clear j2 j3 ha hj hs hl hlen
  unfold askV
  go_enter Tryz.func4, Tryz.ntmps4
  go_upto_region 1 with fail
  generalize w.alloc (.cells #[.int .i64 a.src, .string (bs a.host), .int .i64 a.port, .string (bs a.meth), .string (bs a.path), .int .i64 a.now] 37) = w1 at *
  have HA0 := Lib.hid hr0
  have HB1 := Lib.hid hal
  have hA1 := hAl.out w1 hM1
  clear hal hr0
  go_wp2_with fail
  refine hA1.mono ?_
  rintro e w2 ⟨rfl, hb2⟩
  have HM2 := Lib.hid (maxl_b hM1 hb2)
  have HB2 := Lib.hid (bnext HB1.out hb2 HB1.out.size)
  have HA2 := Lib.hid ((hb2.block _ (Array.getElem?_eq_some_iff.1 HA0.out).1).trans HA0.out)
  have hW3 := whole_any A n c l w2 (HRL.out.step HB2.out) (by omega) HSL.out
  clear hA1 hb2 hM1
  go_wp2_with fail
  refine hW3.mono ?_
  rintro e wq ⟨rfl, hq⟩
  subst wq
  clear hW3
  cases hwl : Ac.wholeL l with
  | false =>
    clear hwl
    go_wp2
    go_ret
    exact ⟨rfl, HB2.out⟩
  | true =>
    by_cases hn0 : n = 0
    · have i1 : ((n : Int) == 0) = true := by rw [hn0]; rfl
      clear hn0 hwl
      go_wp2
      go_ret
      exact ⟨rfl, HB2.out⟩
    have i1 : ((n : Int) == 0) = false := by rw [beq_eq_false_iff_ne]; omega
    by_cases hn2 : 200 ≤ n
    · have i2 : (200 : Int) ≤ (n : Int) := by omega
      clear hn0 hwl hn2
      go_wp2
      go_ret
      exact ⟨rfl, HB2.out⟩
    have i2 : ¬ ((200 : Int) ≤ (n : Int)) := by omega
    have i3 : (n : Int) < 200 := by omega
    have hlne : l ≠ [] := fun e => by have := HLEN.out; rw [e] at this; simp at this; omega
    have HP1 := Lib.hid (Ac.parse_lines l hlne hwl (by rw [HLEN.out]; omega))
    have HP2 := Lib.hid (Ac.parse_lines (l ++ [Ac.allowT]) (by simp) (by unfold Ac.wholeL at hwl ⊢; rw [List.all_append, hwl]; rfl) (by rw [List.length_append, HLEN.out]; simp; omega))
    have HP3 := Lib.hid (Ac.parse_lines (Ac.denyT :: l) (by simp) (by unfold Ac.wholeL at hwl ⊢; rw [List.all_cons, hwl]; rfl) (by rw [List.length_cons, HLEN.out]; omega))
    have HDEF := Lib.hid (fun he => Ac.default_ok (l := l) (a := a) he)
    have hT := text_any A n c l w2 (HRL.out.step HB2.out) (by omega) (Nat.le_trans J1.out (by omega))
    clear hwl hlne hn0 hn2
    go_wp2_with fail
    refine hT.mono ?_
    rintro e w3 ⟨rfl, hb3⟩
    have HM3 := Lib.hid (maxl_b HM2.out hb3)
    have HB3 := Lib.hid (bnext HB2.out hb3 HB2.out.size)
    have HA3 := Lib.hid ((hb3.block _ (Array.getElem?_eq_some_iff.1 HA2.out).1).trans HA2.out)
    have hP := parse_any (Ac.join l) w3 HM3.out (Nat.le_trans J1.out (by omega))
    rw [HP1.out] at hP
    unfold ParseOut at hP
    generalize hr1 : Ac.parseF Ac.LS.nil 0 l = RES1 at *
    have HRES1 := Lib.hid hr1
    generalize Ac.join l = T1 at *
    clear hT hb3 hr1
    go_wp2_with fail
    refine hP.mono ?_
    rintro e w4 ⟨v1, rfl, hz1, hn1, hb4⟩
    have HZ1 := Lib.hid (fun h => hz1 h)
    have HN1 := Lib.hid hn1
    have HM4 := Lib.hid (maxl_b HM3.out hb4)
    have HB4 := Lib.hid (bnext HB3.out hb4 HB3.out.size)
    have HA4 := Lib.hid ((hb4.block _ (Array.getElem?_eq_some_iff.1 HA3.out).1).trans HA3.out)
    clear hP hz1 hn1 hb4
    by_cases e1 : RES1.2.2 = 0
    case neg =>
      have i4 : (RES1.2.2 != 0) = true := by rw [bne_iff_ne]; exact e1
      obtain rfl := HN1.out e1
      clear e1 HZ1 HN1
      go_wp2
      go_ret
      exact ⟨rfl, HB4.out⟩
    have i4 : (RES1.2.2 != 0) = false := by rw [e1]; rfl
    obtain ⟨g1, rfl, hL1⟩ := HZ1.out e1
    have hD1 := decide_any g1 RES1.1 a w4 HM4.out HAsk.out (hL1 w4 (fun _ _ _ => rfl))
    have HD := Lib.hid (HDEF.out e1)
    unfold askV decV at hD1
    generalize Ac.decide_ RES1.1 a = D1 at *
    obtain ⟨x1, m1⟩ := D1
    dsimp only at hD1
    have c0 : w4.cell? ⟨w.heap.size, 0, none⟩ = some (.int .i64 a.src) := by rw [cell_of_row _ _ _ _ _ _ HA4.out]; rfl
    have c1 : w4.cell? ⟨w.heap.size, 1, none⟩ = some (.string (bs a.host)) := by rw [cell_of_row _ _ _ _ _ _ HA4.out]; rfl
    have c2 : w4.cell? ⟨w.heap.size, 2, none⟩ = some (.int .i64 a.port) := by rw [cell_of_row _ _ _ _ _ _ HA4.out]; rfl
    have c3 : w4.cell? ⟨w.heap.size, 3, none⟩ = some (.string (bs a.meth)) := by rw [cell_of_row _ _ _ _ _ _ HA4.out]; rfl
    have c4 : w4.cell? ⟨w.heap.size, 4, none⟩ = some (.string (bs a.path)) := by rw [cell_of_row _ _ _ _ _ _ HA4.out]; rfl
    have c5 : w4.cell? ⟨w.heap.size, 5, none⟩ = some (.int .i64 a.now) := by rw [cell_of_row _ _ _ _ _ _ HA4.out]; rfl
    have hm1 : m1 ≤ n := by have := HD.out.1; rw [HLEN.out] at this; exact this
    have k1 : (0 : Int) ≤ (m1 : Int) := by omega
    have k2 : (m1 : Int) ≤ (n : Int) := by omega
    clear e1 HZ1 HN1 hL1 hm1
    go_wp2_with fail
    refine hD1.mono ?_
    rintro e w5 ⟨rfl, hb5⟩
    have HM5 := Lib.hid (maxl_b HM4.out hb5)
    have HB5 := Lib.hid (bnext HB4.out hb5 HB4.out.size)
    have HA5 := Lib.hid ((hb5.block _ (Array.getElem?_eq_some_iff.1 HA4.out).1).trans HA4.out)
    have hC := copyTexts_own A n c l w5 (HRL.out.step HB5.out) (by omega)
    clear hD1 hb5 c0 c1 c2 c3 c4 c5
    go_wp2_with fail
    refine hC.mono ?_
    rintro e w6 ⟨A6, n6, c6, rfl, ho6, hb6⟩
    have hon := own_count ho6
    have HB6 := Lib.hid (bnext HB5.out hb6 HB5.out.size)
    have HM6 := Lib.hid (maxl_b HM5.out hb6)
    have HA6 := Lib.hid ((hb6.block _ (Array.getElem?_eq_some_iff.1 HA5.out).1).trans HA5.out)
    have HS6 := Lib.hid hb6.size
    have HO6 := Lib.hid ho6
    have HF6 := Lib.hid hb6
    have HLB := Lib.hid (show l.length * 16 ≤ 67108864 by have := HLEN.out; omega)
    clear hC ho6 hb6 hon
    go_upto_region 13 with
      (at_builtin
       refine wp_appS rfl (.tmp 66) (.tmp 67) rfl w5.heap.size (.slice A6 n6 c6) l rfl (HO6.out.step (alloc_below _ _)) (some ⟨w6.heap.size, 0, none⟩) 1 1 [Ac.allowT] rfl (one_rdS _ _ _) ?hby ?hbase ?_
       case hby => have := HLB.out; omega
       case hbase => exact Nat.le_trans HS6.out (by simp)
       intro A7 n7 c7 w7 ho7 hb7 hn7)
    have hb67 : Below w5.heap.size w5 w7 := (bnext HF6.out (alloc_below w6 (.cells #[.string ⟨#[97, 108, 108, 111, 119]⟩] 9)) HF6.out.size).trans hb7
    have HB7 := Lib.hid (bnext HB5.out hb67 HB5.out.size)
    have HM7 := Lib.hid (maxl_b HM5.out hb67)
    have HA7 := Lib.hid ((hb67.block _ (Array.getElem?_eq_some_iff.1 HA5.out).1).trans HA5.out)
    have hT7 := text_any A7 n7 c7 (l ++ [Ac.allowT]) w7 ho7.rd (by have := ho7.rd.1; rw [List.length_append] at this; have := HLEN.out; simp at *; omega) (Nat.le_trans J2.out (by omega))
    clear ho7 hb7 hn7 hb67
    go_wp2_with fail
    refine hT7.mono ?_
    rintro e w8 ⟨rfl, hb8⟩
    have HM8 := Lib.hid (maxl_b HM7.out hb8)
    have HB8 := Lib.hid (bnext HB7.out hb8 HB7.out.size)
    have HA8 := Lib.hid ((hb8.block _ (Array.getElem?_eq_some_iff.1 HA7.out).1).trans HA7.out)
    have hP8 := parse_any (Ac.join (l ++ [Ac.allowT])) w8 HM8.out J2.out
    rw [HP2.out] at hP8
    unfold ParseOut at hP8
    generalize Ac.parseF Ac.LS.nil 0 (l ++ [Ac.allowT]) = RES2 at *
    generalize Ac.join (l ++ [Ac.allowT]) = T2 at *
    clear hT7 hb8
    go_wp2_with fail
    refine hP8.mono ?_
    rintro e w9 ⟨v2, rfl, hz2, -, hb9⟩
    have e2 : RES2.2.2 = 0 := HD.out.2.1
    obtain ⟨g2, rfl, hL2⟩ := hz2 e2
    have HM9 := Lib.hid (maxl_b HM8.out hb9)
    have HB9 := Lib.hid (bnext HB8.out hb9 HB8.out.size)
    have HA9 := Lib.hid ((hb9.block _ (Array.getElem?_eq_some_iff.1 HA8.out).1).trans HA8.out)
    have hD9 := decide_any g2 RES2.1 a w9 HM9.out HAsk.out (hL2 w9 (fun _ _ _ => rfl))
    have i5 : (RES2.2.2 != 0) = false := by rw [e2]; rfl
    have HDX := Lib.hid HD.out.2.2
    unfold askV decV at hD9
    generalize Ac.decide_ RES2.1 a = D2 at *
    obtain ⟨x2, m2⟩ := D2
    dsimp only at hD9
    have c0 : w9.cell? ⟨w.heap.size, 0, none⟩ = some (.int .i64 a.src) := by rw [cell_of_row _ _ _ _ _ _ HA9.out]; rfl
    have c1 : w9.cell? ⟨w.heap.size, 1, none⟩ = some (.string (bs a.host)) := by rw [cell_of_row _ _ _ _ _ _ HA9.out]; rfl
    have c2 : w9.cell? ⟨w.heap.size, 2, none⟩ = some (.int .i64 a.port) := by rw [cell_of_row _ _ _ _ _ _ HA9.out]; rfl
    have c3 : w9.cell? ⟨w.heap.size, 3, none⟩ = some (.string (bs a.meth)) := by rw [cell_of_row _ _ _ _ _ _ HA9.out]; rfl
    have c4 : w9.cell? ⟨w.heap.size, 4, none⟩ = some (.string (bs a.path)) := by rw [cell_of_row _ _ _ _ _ _ HA9.out]; rfl
    have c5 : w9.cell? ⟨w.heap.size, 5, none⟩ = some (.int .i64 a.now) := by rw [cell_of_row _ _ _ _ _ _ HA9.out]; rfl
    clear hP8 hz2 e2 hL2 hb9 HD
    go_wp2_with fail
    refine hD9.mono ?_
    rintro e w10 ⟨rfl, hb10⟩
    have HM10 := Lib.hid (maxl_b HM9.out hb10)
    have HB10 := Lib.hid (bnext HB9.out hb10 HB9.out.size)
    have HA10 := Lib.hid ((hb10.block _ (Array.getElem?_eq_some_iff.1 HA9.out).1).trans HA9.out)
    clear hD9 hb10 c0 c1 c2 c3 c4 c5
    by_cases hm0 : 0 < m1
    · have h9 := HDX.out.2.1 hm0
      injection h9 with h9 h10
      subst h9 h10
      have k3 : (0 : Int) < (m2 : Int) := by omega
      clear hm0
      go_wp2
      go_ret
      exact ⟨rfl, HB10.out⟩
    · have h9 := HDX.out.2.2 (by omega)
      have k3 : ¬ ((0 : Int) < (m1 : Int)) := by omega
      obtain ⟨h10, h11⟩ := h9
      injection h10 with h10 h12
      subst h10 h12
      have HD3 := Lib.hid h11
      have e3 := HDX.out.1
      clear hm0 h11 HDX
      have HE3 := Lib.hid e3
      clear e3
      go_upto_region 21 with
        (at_builtin
         refine wp_appS rfl (.tmp 99) (.tmp 100) rfl w10.heap.size (.slice (some ⟨w10.heap.size, 0, none⟩) 1 1) [Ac.denyT] rfl (own_lit1 w10 _ _) A n c l rfl ((HRL.out.step HB10.out).step (alloc_below _ _)) ?hby2 ?hbase2 ?_
         case hby2 => have := HLB.out; have := HLEN.out; simp; omega
         case hbase2 => simp
         intro A11 n11 c11 w11 ho11 hb11 hn11)
      have hb1 : Below w10.heap.size w10 w11 := (alloc_below w10 (.cells #[.string ⟨#[100, 101, 110, 121]⟩] 9)).trans hb11
      have HB11 := Lib.hid (bnext HB10.out hb1 HB10.out.size)
      have HM11 := Lib.hid (maxl_b HM10.out hb1)
      have HA11 := Lib.hid ((hb1.block _ (Array.getElem?_eq_some_iff.1 HA10.out).1).trans HA10.out)
      have hT11 := text_any A11 n11 c11 (Ac.denyT :: l) w11 ho11.rd (by have := ho11.rd.1; have := HLEN.out; simp at *; omega) (Nat.le_trans J3.out (by omega))
      clear ho11 hb11 hn11 hb1
      go_wp2_with fail
      refine hT11.mono ?_
      rintro e w12 ⟨rfl, hb12⟩
      have HM12 := Lib.hid (maxl_b HM11.out hb12)
      have HB12 := Lib.hid (bnext HB11.out hb12 HB11.out.size)
      have HA12 := Lib.hid ((hb12.block _ (Array.getElem?_eq_some_iff.1 HA11.out).1).trans HA11.out)
      have hP12 := parse_any (Ac.join (Ac.denyT :: l)) w12 HM12.out J3.out
      rw [HP3.out] at hP12
      unfold ParseOut at hP12
      generalize Ac.parseF Ac.LS.nil 0 (Ac.denyT :: l) = RES3 at *
      generalize Ac.join (Ac.denyT :: l) = T3 at *
      clear hT11 hb12
      go_wp2_with fail
      refine hP12.mono ?_
      rintro e w13 ⟨v3, rfl, hz3, -, hb13⟩
      obtain ⟨g3, rfl, hL3⟩ := hz3 HE3.out
      have HM13 := Lib.hid (maxl_b HM12.out hb13)
      have HB13 := Lib.hid (bnext HB12.out hb13 HB12.out.size)
      have HA13 := Lib.hid ((hb13.block _ (Array.getElem?_eq_some_iff.1 HA12.out).1).trans HA12.out)
      have hD13 := decide_any g3 RES3.1 a w13 HM13.out HAsk.out (hL3 w13 (fun _ _ _ => rfl))
      have i6 : (RES3.2.2 != 0) = false := by rw [HE3.out]; rfl
      unfold askV decV at hD13
      rw [HD3.out] at hD13
      have c0 : w13.cell? ⟨w.heap.size, 0, none⟩ = some (.int .i64 a.src) := by rw [cell_of_row _ _ _ _ _ _ HA13.out]; rfl
      have c1 : w13.cell? ⟨w.heap.size, 1, none⟩ = some (.string (bs a.host)) := by rw [cell_of_row _ _ _ _ _ _ HA13.out]; rfl
      have c2 : w13.cell? ⟨w.heap.size, 2, none⟩ = some (.int .i64 a.port) := by rw [cell_of_row _ _ _ _ _ _ HA13.out]; rfl
      have c3 : w13.cell? ⟨w.heap.size, 3, none⟩ = some (.string (bs a.meth)) := by rw [cell_of_row _ _ _ _ _ _ HA13.out]; rfl
      have c4 : w13.cell? ⟨w.heap.size, 4, none⟩ = some (.string (bs a.path)) := by rw [cell_of_row _ _ _ _ _ _ HA13.out]; rfl
      have c5 : w13.cell? ⟨w.heap.size, 5, none⟩ = some (.int .i64 a.now) := by rw [cell_of_row _ _ _ _ _ _ HA13.out]; rfl
      clear hP12 hz3 hL3 hb13
      go_wp2_with fail
      refine hD13.mono ?_
      rintro e w14 ⟨rfl, hb14⟩
      have HB14 := Lib.hid (bnext HB13.out hb14 HB13.out.size)
      clear hD13 hb14 c0 c1 c2 c3 c4 c5
      have k6 : (l.length : Int) = (n : Int) := by have := HLEN.out; omega
      go_wp2
      go_ret
      exact ⟨rfl, HB14.out⟩

theorem own : ownKnob Tryz.prog.godebug = none := by kernel_rfl
theorem contract (H : Type) (enc : TypeId × Value → H) (W : World) (base : Nat) (args : Array Value) (ds gs : List (DataW H)) (before : List MemPlace)
    (hval : ∀ (j : Nat) t v, Tryz.f4.params[j]? = some t → args[j]? = some v → Value.okWide Tryz.prog W .any base t v)
    (hW : DataW.Whole enc Tryz.prog Tryz.f4.params.toList Rows.aclDefaultSpec.vars false W args.toList ds gs before) (hk : Rows.uptoSmall H (ds ++ gs) = true) (hmax : MaxL W) :
    Calls Tryz.prog 4 args W fun e W' => ∃ v, e = .returned v ∧ Rows.aclDefaultSpec.post enc Tryz.prog Tryz.f4 false true false false W args v W' := by
  have hW' := hW
  obtain ⟨p, q, hA0, hV, rfl, hfz, hnd⟩ := hW
  have hA : DataW.TrodAll enc Tryz.prog W 0 (fun _ => true) true Tryz.f4.params.toList args.toList ds p := hA0
  rw [Tryz.params4] at hA hval
  obtain ⟨v0, vs0, d0, ds0, p0, q0, hargs, rfl, rfl, h0, r0⟩ := trodAll_cons hA
  obtain ⟨v1, vs1, d1, ds1, p1, q1, rfl, rfl, rfl, h1, r1⟩ := trodAll_cons r0
  obtain ⟨rfl, rfl, rfl⟩ := trodAll_nil r1
  obtain rfl : args = #[v0, v1] := by cases args; simp_all
  obtain ⟨rfl, rfl⟩ := trodVars_none hV
  have hall := bulks.bound hk
  simp only [List.append_nil, Rows.uptoBulkAll] at hall
  have hb0 : Rows.uptoBulk d0 ≤ 1048576 := by omega
  have hb1 : Rows.uptoBulk d1 ≤ 1048576 := by omega
  clear hall
  obtain ⟨A0, n0, c0, l0, rfl, hr0, hc0, hd0, hn0, hj0, hs0⟩ := opTexts (hval 0 39 v0 rfl rfl) h0 hb0
  obtain ⟨a1, rfl, ha1⟩ := opAsk (hval 1 37 v1 rfl rfl) h1 hb1
  clear hA0
  refine (walk W hmax A0 n0 c0 l0 hr0 hn0 hj0 hs0 a1 ha1).mono fun e W' ⟨he, hg⟩ => ?_
  subst he
  exact ⟨_, rfl, post_of_below (pa := p0 ++ (p1 ++ ([]))) (pv := []) hW' (fun _ _ _ => (trodAll_cons_mk (shut_bool Tryz.underlying4 _) trodAll_mk0)) (fun sp hsp => (trodAll_cons_mk (arg_stays laidOut (by kernel_rfl) (of_decide_eq_true (by kernel_rfl)) h0 hg (fun x hx => hW'.lt x (by simp [hx])) sp (fun x hx => hsp x (by simp [hx]))) (trodAll_cons_mk (arg_stays laidOut (by kernel_rfl) (of_decide_eq_true (by kernel_rfl)) h1 hg (fun x hx => hW'.lt x (by simp [hx])) sp (fun x hx => hsp x (by simp [hx]))) trodAll_mk0))) (fun _ _ => rfl) rfl
    hg (ok_one (by kernel_rfl) rfl (okWide_bool_mk Tryz.underlying4 _))⟩

/-- A world for the witness: the listed variables hold what the program lays. -/
noncomputable def laidWorld (os : Os) : World := World.laidAll Tryz.prog os Rows.aclDefaultUptoRow.laid
set_option maxRecDepth 1000000 in
theorem laid_met (os : Os) : laidMet Tryz.prog Rows.aclDefaultUptoRow.laid ((laidWorld os).forCall (fun _ _ => 0) ⟨#[], #[.slice none 0 0, .agg #[.int .i64 0, .string ⟨#[]⟩, .int .i64 0, .string ⟨#[]⟩, .string ⟨#[]⟩, .int .i64 0]], []⟩).memory :=
  laidMet_laidAll _ (by kernel_rfl) (by kernel_rfl)

theorem reads (os : Os) {H : Type} (enc : TypeId × Value → H) : ∃ places, DataW.whole enc Tryz.prog ((laidWorld os).forCall (fun _ _ => 0) ⟨#[], #[.slice none 0 0, .agg #[.int .i64 0, .string ⟨#[]⟩, .int .i64 0, .string ⟨#[]⟩, .string ⟨#[]⟩, .int .i64 0]], []⟩).memory Tryz.f4.params.toList Rows.aclDefaultSpec.vars false #[.slice none 0 0, .agg #[.int .i64 0, .string ⟨#[]⟩, .int .i64 0, .string ⟨#[]⟩, .string ⟨#[]⟩, .int .i64 0]].toList 8 = some ([.nil, .agg [.lit (.int .i64 0), .lit (.string []), .lit (.int .i64 0), .lit (.string []), .lit (.string []), .lit (.int .i64 0)]], [], places) :=
  ⟨[], by kernel_rfl⟩

set_option maxRecDepth 100000 in
theorem liftedUpto (os : Os) (started : os.Started) (H : Type) (enc : TypeId × Value → H) (F : Stop.Interp) :
    ReturnsInHanded {} Tryz.checked os 4 .any ((Rows.OpenSpec.upto Rows.aclDefaultSpec).preRow enc Tryz.prog Tryz.f4 Rows.aclDefaultUptoRow.domain false Rows.aclDefaultUptoRow.laid) (((Rows.OpenSpec.upto Rows.aclDefaultSpec).at F).post enc Tryz.prog Tryz.f4 false true false false) := by
  obtain ⟨places, hx⟩ := reads os enc
  refine returnsInHanded_of_row (C := Tryz.checked) (s := Rows.OpenSpec.upto Rows.aclDefaultSpec) own started (by kernel_rfl) Tryz.func4
    (witness_row_atRef (enc := enc) (C := Tryz.checked) false (laidWorld os) #[.slice none 0 0, .agg #[.int .i64 0, .string ⟨#[]⟩, .int .i64 0, .string ⟨#[]⟩, .string ⟨#[]⟩, .int .i64 0]] (World.laidAll_os _ _ _) (by kernel_rfl) (by kernel_rfl) (by kernel_rfl)
      (OpenSpec.preRow_of_cond 8 hx (by kernel_rfl) (fun k hk => by cases hk; kernel_rfl) (by kernel_rfl) (laid_met os))) ?_
  intro W base args ds gs before hval hW g1 hcond g2 g3 g4 g5
  exact contract H enc W base args ds gs before hval hW (hcond _ rfl) (by first | exact maxl_of g4 | exact maxl_of g3 | exact maxl_of g2 | exact maxl_of g5 | exact maxl_of g1)

theorem saidUpto : Rows.AclDefaultUptoSaid :=
  OpenClaim.holds_of_cond 4 Tryz.f4 rfl rfl rfl rfl rfl rfl rfl ⟨rfl, rfl, rfl, rfl, rfl⟩ rfl rfl rfl rfl rfl (by kernel_rfl) Tryz.func4 (by kernel_rfl)
    (of_decide_eq_true (by kernel_rfl)) (by unfold Func.isWrapper; first | (rw [if_pos (by decide +kernel)]; kernel_rfl) | (rw [if_neg (by decide +kernel)]; exact ⟨rfl, rfl⟩))
    (fun os started H enc _ F => by rw [OpenClaim.pre_eq_preRow]; exact liftedUpto os started H enc F)

theorem plain (f : FuncId) (fn : Func) (hf : Tryz.pinned.checked.prog.funcNamed "conduit/conduitlaw21.AclDefault" = some f) (hfn : Tryz.pinned.checked.prog.funcs[f]? = some fn) :
    true = Tryz.pinned.checked.prog.looks [] ∧ ∀ (j : Nat) t, fn.params[j]? = some t → Tryz.pinned.checked.prog.wantsStandIn t = false := by
  obtain rfl : f = 4 := Option.some.inj ((show Tryz.prog.funcNamed "conduit/conduitlaw21.AclDefault" = some 4 by kernel_rfl).symm.trans hf) |>.symm
  obtain rfl : fn = Tryz.f4 := (Option.some.inj (Tryz.func4.symm.trans hfn)).symm
  refine ⟨by kernel_rfl, fun j t ht => ?_⟩
  rw [Tryz.params4] at ht
  have hm := Array.mem_of_getElem? ht
  simp only [List.mem_toArray, List.mem_cons, List.not_mem_nil, or_false] at hm
  rcases hm with rfl | rfl
  · exact (show Tryz.prog.wantsStandIn 39 = false by kernel_rfl)
  · exact (show Tryz.prog.wantsStandIn 37 = false by kernel_rfl)

theorem proved : Rows.AclDefaultUptoCardSaid :=
  Claim7.holds_tied_plain_at .later [] _ _ _ _ saidUpto (fun _ h => by cases h) (by kernel_rfl) (fun _ h => by cases h) aclDefaultUpto_row_tie rfl ⟨rfl, rfl⟩ (by kernel_rfl) rfl plain (by kernel_rfl)
end Go.Proofs.YtgkphjbcaidcpaaGreatDoor.aclDefault
