/- PoolOrigins: for every input the law answers true and leaves its arguments as they were. No conditions. -/
import Derived.Test.YtepedjnmliclkaaRows
import Derived.Test.YtepedjnmliclkaaPoolM
import Derived.StillTailTactics
import Derived.Test.YtepedjnmliclkaaOpenO
import Derived.WalkKit
import Derived.ProofKit
import Derived.OpenShut
import Derived.JoinedCond
set_option linter.unusedVariables false
set_option linter.unusedSimpArgs false
set_option maxRecDepth 100000
namespace Go.Proofs.Ytepedjnmliclkaa.poolOrigins
open Go.ChangeShapes Go.WideShapes Go.ChangeAt Go.RowKit

set_option maxRecDepth 100000 in
set_option maxHeartbeats 2000000 in
theorem walk (w : World) (most : Int) (hm1 : -9223372036854775808 ≤ most) (hm2 : most ≤ 9223372036854775807) (each : Int) (he1 : -9223372036854775808 ≤ each) (he2 : each ≤ 9223372036854775807) (idle : Int) (hi1 : -9223372036854775808 ≤ idle) (hi2 : idle ≤ 9223372036854775807)
    (A : Option Addr) (n c : Nat) (l : List Op4) (hA : RdO w A n l) (hnc : n ≤ c) (hcm : c ≤ 9223372036854775807) (og : List UInt8) (hog : og.length ≤ 140737488351232) (now : Int) (hn1 : -9223372036854775808 ≤ now) (hn2 : now ≤ 9223372036854775807) :
    Calls Try.prog 8 #[.int .i64 most, .int .i64 each, .int .i64 idle, .slice A n c, .string (bs og), .int .i64 now] w fun e w' => e = .returned (.bool true) ∧ Below w.heap.size w w' := by
  have hmp : 0 ≤ upL most := by unfold upL; split <;> omega
  have hep : 0 ≤ upL each := by unfold upL; split <;> omega
  go_enter Try.func8, Try.ntmps8
  go_wp2_with fail
  refine (alive_any w).mono ?_
  rintro e w1 ⟨rfl, hb1⟩
  have hl1 := hA.step hb1
  go_wp2_with fail
  refine (poolNew_any most each idle w1).mono ?_
  rintro e w2 ⟨pb, rfl, hp2, hb2⟩
  have hl2 := hl1.step hb2
  have hbA := bnext hb1 hb2 hb1.size
  go_wp2_with fail
  refine (cutP_any A n c l w2 hl2 hnc hcm).mono ?_
  rintro e w3 ⟨m, rfl, hm3, hmc, hl3, rfl⟩
  have hsc := cut_back hA hl3
  generalize l.take 300 = sc at *
  have hlen := hsc.1
  clear hl1 hl2 hA hl3
  go_wp2
  go_loopw [14] (fun t wr => ∃ k : Nat, k ≤ m ∧ t = .int .i64 k ∧ PoolX wr w1.heap.size pb (upL most) (upL each) (upL idle) (putsL (upL most) (upL each) (sc.take k)) ∧ Below w1.heap.size w1 wr) (fun t _ => m - (intOf t).toNat)
  case atStart => exact ⟨0, by omega, rfl, hp2, hb2⟩
  case round =>
    clear hp2 hb2 hbA
    obtain ⟨k, hk, rfl, hpx, hbr⟩ := hrel
    have hbw := bnext hb1 hbr hb1.size
    have hsr := hsc.step hbw
    by_cases hlt : k < m
    · obtain ⟨g, o, x, rfl, hg, HX, c0, c1, c2, c3⟩ := hsr.at_ hlt
      have k0 : (0 : Int) ≤ (k : Int) := by omega
      have k1 : (k : Int) < (m : Int) := by omega
      have hko := putsL_ok (upL most) (upL each) sc k
      have HS := Lib.hid (putsL_snoc (m := upL most) (e := upL each) HX.out)
      have hP := fun W hW => put_any w1.heap.size pb (upL most) (upL each) (upL idle) (putsL (upL most) (upL each) (sc.take k)) x.k x.a x.b W hW hko.1 (by omega) hmp hep
      have HPX := Lib.hid hpx
      have HB := Lib.hid hbr
      clear hpx hbr hbw hsr hsc hko c0
      go_wp2
      go_still_tail 16, (by kernel_rfl)
      change wpList _ _ _ _ _ wr.drew
      go_wp2_with fail
      refine (hP _ HPX.out.drew).mono ?_
      rintro e w4 ⟨A4, n4, c4, rfl, -, hp4, ht4⟩
      have hbn := below_of_drew HB.out ht4.below
      go_wp2
      go_roundw
      case rel => exact ⟨k + 1, by omega, by go_num, by rw [HS.out]; exact hp4, hbn⟩
      case measure => simp [intOf]; omega
    · obtain rfl : k = m := by omega
      have hko := putsL_ok (upL most) (upL each) sc k
      have HL := Lib.hid (putsL_last (upL most) (upL each) sc k)
      have HTk : Hid (sc.take k = sc) := Lib.hid (List.take_of_length_le (by omega))
      have hT := take_any w1.heap.size pb (upL most) (upL each) (upL idle) (putsL (upL most) (upL each) (sc.take k)) og now wr hpx hko.1 (by omega)
      have HB := Lib.hid hbr
      have HM : Hid (∀ x, lastL (takeB (upL idle) now og) (putsL (upL most) (upL each) (sc.take k)) = some x → ∃ j o, sc[j]? = some o ∧ o.a = x.id ∧ o.k = og ∧ ∀ (i : Nat) (y : Op4), j < i → sc[i]? = some y → y.a ≠ x.id) := Lib.hid fun x hx => by
        obtain ⟨h1, h2⟩ := lastL_mem hx
        obtain ⟨o, ho, hk1, _⟩ := HL.out x h1
        rw [HTk.out] at ho
        obtain ⟨j, hj, hja, hjb⟩ := lastOp_at ho
        refine ⟨j, o, hj, hja, ?_, hjb⟩
        rw [hk1]
        unfold takeB at h2
        simp at h2
        exact h2.1
      generalize lastL (takeB (upL idle) now og) (putsL (upL most) (upL each) (sc.take k)) = R at *
      clear hpx hko HL HTk hbr hbw hsr
      go_wp2_with fail
      refine hT.mono ?_
      rintro e w4 ⟨rfl, -, ht4⟩
      have hb4 := bnext hb1 (HB.out.trans ht4.below) hb1.size
      have hs4 := hsc.step hb4
      unfold takeV
      cases R with
      | none =>
        clear hT HM
        go_wp2
        go_ret
        exact ⟨rfl, hb4⟩
      | some x =>
        obtain ⟨j, y, hj, hja, hjk, hjb⟩ := HM.out x rfl
        have HJ := Lib.hid hj
        have HJB := Lib.hid hjb
        have hjm : j < k := by have := (List.getElem?_eq_some_iff.1 hj).1; omega
        have HB4 := Lib.hid hb4
        clear hT HM hj hjb hb4 ht4
        dsimp only
        have hm1' : (k : Int) - 1 + 1 = (k : Int) := by omega
        go_wp2
        go_loop [17] (fun t => ∃ i : Nat, j ≤ i ∧ i < k ∧ t = .int .i64 (i : Int)) (fun t => (intOf t).toNat)
        case atStart => exact ⟨k - 1, by omega, by omega, by congr 1; omega⟩
        case round =>
          obtain ⟨i, hi1, hi2, rfl⟩ := hrel
          obtain ⟨g, o, z, rfl, hg, HX, c0, c1, c2, c3⟩ := hs4.at_ hi2
          have k0 : (0 : Int) ≤ (i : Int) := by omega
          have k1 : (i : Int) < (k : Int) := by omega
          by_cases hij : i = j
          · subst hij
            obtain rfl : z = y := by have h1 := HX.out; rw [HJ.out] at h1; exact (Option.some.inj h1).symm
            have e1 : (z.a == x.id) = true := by simp [hja]
            have e2 : (z.k == og) = true := by simp [hjk]
            clear hja hjk
            go_wp2
            go_ret
            exact ⟨ret_bool (by simp [e2]), HB4.out⟩
          · have hne := HJB.out i z (by omega) HX.out
            have e1 : (z.a == x.id) = false := by simp [hne]
            clear hja hjk hne
            go_wp2
            go_round
            case rel => exact ⟨i - 1, by omega, by omega, by congr 1; omega⟩
            case measure => simp [intOf]; omega

theorem own : ownKnob Try.prog.godebug = none := by kernel_rfl
theorem contract (H : Type) (enc : TypeId × Value → H) (W : World) (base : Nat) (args : Array Value) (ds gs : List (DataW H)) (before : List MemPlace)
    (hval : ∀ (j : Nat) t v, Try.f8.params[j]? = some t → args[j]? = some v → Value.okWide Try.prog W .any base t v)
    (hW : DataW.Whole enc Try.prog Try.f8.params.toList Rows.poolOriginsSpec.vars false W args.toList ds gs before) (hsz : (DataW.weightsEach Try.prog (Try.f8.params.toList ++ Rows.poolOriginsSpec.plain.varTypes Try.prog) (ds ++ gs)).all (· ≤ reachBytes) = true) :
    Calls Try.prog 8 args W fun e W' => ∃ v, e = .returned v ∧ Rows.poolOriginsSpec.post enc Try.prog Try.f8 false true false false W args v W' := by
  have hW' := hW
  obtain ⟨p, q, hA0, hV, rfl, hfz, hnd⟩ := hW
  have hA : DataW.TrodAll enc Try.prog W 0 (fun _ => true) true Try.f8.params.toList args.toList ds p := hA0
  rw [Try.params8] at hA hval hsz
  obtain ⟨v0, vs0, d0, ds0, p0, q0, hargs, rfl, rfl, h0, r0⟩ := trodAll_cons hA
  obtain ⟨v1, vs1, d1, ds1, p1, q1, rfl, rfl, rfl, h1, r1⟩ := trodAll_cons r0
  obtain ⟨v2, vs2, d2, ds2, p2, q2, rfl, rfl, rfl, h2, r2⟩ := trodAll_cons r1
  obtain ⟨v3, vs3, d3, ds3, p3, q3, rfl, rfl, rfl, h3, r3⟩ := trodAll_cons r2
  obtain ⟨v4, vs4, d4, ds4, p4, q4, rfl, rfl, rfl, h4, r4⟩ := trodAll_cons r3
  obtain ⟨v5, vs5, d5, ds5, p5, q5, rfl, rfl, rfl, h5, r5⟩ := trodAll_cons r4
  obtain ⟨rfl, rfl, rfl⟩ := trodAll_nil r5
  obtain rfl : args = #[v0, v1, v2, v3, v4, v5] := by cases args; simp_all
  obtain ⟨rfl, rfl⟩ := trodVars_none hV
  obtain ⟨i0, rfl, hi0, hj0⟩ := opI (hval 0 3 v0 rfl rfl) h0
  obtain ⟨i1, rfl, hi1, hj1⟩ := opI (hval 1 3 v1 rfl rfl) h1
  obtain ⟨i2, rfl, hi2, hj2⟩ := opI (hval 2 3 v2 rfl rfl) h2
  obtain ⟨A3, n3, c3, l3, rfl, hr3, hc3, hd3⟩ := opOp23 (hval 3 64 v3 rfl rfl) h3
  obtain ⟨s4, rfl, e4⟩ := opS (hval 4 9 v4 rfl rfl) h4
  obtain ⟨i5, rfl, hi5, hj5⟩ := opI (hval 5 3 v5 rfl rfl) h5
  have hl4 : s4.length ≤ 140737488351232 := by have := sized_string (bytes := s4) hsz (j := 4) (t := 9) rfl (by rw [e4]; rfl); unfold reachBytes at this; omega
  clear hA0
  refine (walk W i0 hi0 hj0 i1 hi1 hj1 i2 hi2 hj2 A3 n3 c3 l3 hr3 hc3 hd3 s4 hl4 i5 hi5 hj5).mono fun e W' ⟨he, hg⟩ => ?_
  subst he
  exact ⟨_, rfl, post_of_below (pa := p0 ++ (p1 ++ (p2 ++ (p3 ++ (p4 ++ (p5 ++ ([]))))))) (pv := []) hW' (fun _ _ _ => (trodAll_cons_mk (shut_bool Try.underlying4 _) trodAll_mk0)) (fun sp hsp => (trodAll_cons_mk (arg_stays laidOut (by kernel_rfl) (of_decide_eq_true (by kernel_rfl)) h0 hg (fun x hx => hW'.lt x (by simp [hx])) sp (fun x hx => hsp x (by simp [hx]))) (trodAll_cons_mk (arg_stays laidOut (by kernel_rfl) (of_decide_eq_true (by kernel_rfl)) h1 hg (fun x hx => hW'.lt x (by simp [hx])) sp (fun x hx => hsp x (by simp [hx]))) (trodAll_cons_mk (arg_stays laidOut (by kernel_rfl) (of_decide_eq_true (by kernel_rfl)) h2 hg (fun x hx => hW'.lt x (by simp [hx])) sp (fun x hx => hsp x (by simp [hx]))) (trodAll_cons_mk (arg_stays laidOut (by kernel_rfl) (of_decide_eq_true (by kernel_rfl)) h3 hg (fun x hx => hW'.lt x (by simp [hx])) sp (fun x hx => hsp x (by simp [hx]))) (trodAll_cons_mk (arg_stays laidOut (by kernel_rfl) (of_decide_eq_true (by kernel_rfl)) h4 hg (fun x hx => hW'.lt x (by simp [hx])) sp (fun x hx => hsp x (by simp [hx]))) (trodAll_cons_mk (arg_stays laidOut (by kernel_rfl) (of_decide_eq_true (by kernel_rfl)) h5 hg (fun x hx => hW'.lt x (by simp [hx])) sp (fun x hx => hsp x (by simp [hx]))) trodAll_mk0))))))) (fun _ _ => rfl) rfl
    hg (ok_one (by kernel_rfl) rfl (okWide_bool_mk Try.underlying4 _))⟩

set_option maxRecDepth 100000 in
theorem lifted (os : Os) (started : os.Started) (H : Type) (enc : TypeId × Value → H) :
    ReturnsInHanded {} Try.checked os 8 .any (Rows.poolOriginsSpec.pre6 enc Try.prog Try.f8 Rows.poolOriginsRow.domain false) (Rows.poolOriginsSpec.post enc Try.prog Try.f8 false true false false) := by
  refine returnsInHanded_of_change_sized (C := Try.checked) own started (by kernel_rfl) Try.func8
    (ChangeSpec.witness6 (enc := enc) (C := Try.checked) false ⟨#[], #[.int .i64 0, .int .i64 0, .int .i64 0, .slice none 0 0, .string ⟨#[]⟩, .int .i64 0], []⟩ 8 (by kernel_rfl) (by kernel_rfl) (by kernel_rfl) (by kernel_rfl)) ?_
  intro W base args ds gs before hval hW _ hsz _
  exact contract H enc W base args ds gs before hval hW hsz

theorem over : Rows.poolOriginsRow.holds Try.pinned (OpenSpec.ofChange Rows.poolOriginsSpec) :=
  OpenClaim.holds_of_wide 8 Try.f8 rfl rfl rfl rfl rfl rfl rfl ⟨rfl, rfl, rfl, rfl, rfl⟩ rfl rfl rfl rfl rfl (by kernel_rfl) Try.func8 (by kernel_rfl)
    (of_decide_eq_true (by kernel_rfl)) (by unfold Func.isWrapper; first | (rw [if_pos (by decide +kernel)]; kernel_rfl) | (rw [if_neg (by decide +kernel)]; exact ⟨rfl, rfl⟩))
    (fun os started H enc _ => lifted os started H enc)

theorem proved : Rows.PoolOriginsSaid :=
  over
end Go.Proofs.Ytepedjnmliclkaa.poolOrigins
