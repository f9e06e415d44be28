/- AclDecides: for every input within the second form's bound the law answers true and leaves its arguments as they were. Condition: the bulk of the arguments at most 1048576. -/
import Derived.Test.YtgkphjbcaidcpaaGreatDoorCards
import Derived.Test.YtgkphjbcaidcpaaGreatDoorTie
import Derived.Test.YtgkphjbcaidcpaaGreatDoorM15
import Derived.Test.YtgkphjbcaidcpaaGreatDoorM24
import Derived.Test.YtgkphjbcaidcpaaGreatDoorM25
import Derived.WalkKit
import Derived.ProofKit
import Derived.OpenShut
import Derived.JoinedCond
import Derived.Deep.DeepHandedRow
import Derived.Deep.DeepWitnessRowRef
import Derived.Lib.LaidTab
import Derived.Lay
set_option linter.unusedVariables false
set_option linter.unusedSimpArgs false
set_option maxRecDepth 100000
namespace Go.Proofs.YtgkphjbcaidcpaaGreatDoor.aclDecides
open Go.ChangeShapes Go.WideShapes Go.ChangeAt Go.RowKit

set_option maxHeartbeats 8000000 in
theorem walk (w : World) (hM : MaxL w) (s : List UInt8) (hs : s.length ≤ 1048576) (A : Option Addr) (n c : Nat) (l : List Ac.Ask) (hr : RdAsk w A n l) (hn : n ≤ 1048576) (ha : ∀ a ∈ l, a.host.length ≤ 1048576 ∧ a.meth.length ≤ 1048576 ∧ a.path.length ≤ 1048576 ∧ -9223372036854775808 ≤ a.now ∧ a.now ≤ 9223372036854775807) :
    Calls Tryz.prog 3 #[.string (bs s), .slice A n c] w fun e w' => e = .returned (.bool true) ∧ Below w.heap.size w w' := by
  have hA1 := alive_any w hM
  have hP := Lib.hid fun W hM => parse_any s W hM (by omega)
  have hQ := Lib.hid fun W => rparse_any s W (by omega)
  have HA : Hid (∀ a ∈ l, AskOK a) := Lib.hid fun a h => ⟨by have := (ha a h).1; omega, by have := (ha a h).2.1; omega, by have := (ha a h).2.2.1; omega, (ha a h).2.2.2.1, (ha a h).2.2.2.2⟩
  clear ha
  go_enter Tryz.func3, Tryz.ntmps3
  go_wp2_with fail
  refine hA1.mono ?_
  rintro e w2 ⟨rfl, hb2⟩
  have hM2 := maxl_b hM hb2
  have hP2 := hP.out w2 hM2
  unfold ParseOut at hP2
  clear hA1
  go_wp2_with fail
  refine hP2.mono ?_
  rintro e w3 ⟨v, rfl, hz, hno, hb3⟩
  have hQ3 := hQ.out w3
  unfold ParseR rlV at hQ3
  have hb23 := bnext hb2 hb3 hb2.size
  have HM3 := Lib.hid (maxl_b hM2 hb3)
  generalize Ac.parse s = RES at *
  clear hP hQ hP2 hb3
  obtain ⟨RL, rn, re⟩ := RES
  dsimp only at hz hno hQ3
  by_cases h0 : re = 0
  · subst h0
    obtain ⟨g, rfl, hL⟩ := hz rfl
    have HL := Lib.hid hL
    clear hz hno hL
    go_wp2_with fail
    refine hQ3.mono ?_
    rintro e w4 ⟨E, en, ec, R, rrn, rc, rfl, hRL, hb4⟩
    obtain ⟨hRL1, hRL2⟩ := hRL (by trivial)
    clear hQ3 hRL
    go_upto_region 5 with fail
    have hal := alloc_below w4 (.cells #[.slice E en ec, .slice R rrn rc] 31)
    have hrb := heap_alloc_new w4 (.cells #[.slice E en ec, .slice R rrn rc] 31)
    have HLw : Hid (∀ W, Below (w4.alloc (.cells #[.slice E en ec, .slice R rrn rc] 31)).heap.size (w4.alloc (.cells #[.slice E en ec, .slice R rrn rc] 31)) W → PList W g RL) := Lib.hid fun W hW => HL.out W fun k h1 h2 =>
      ((hW.block k (by have := hb4.size; simp; omega)).trans (hal.block k (by have := hb4.size; omega))).trans (hb4.block k h2)
    have hM5 := maxl_b (maxl_b HM3.out hb4) hal
    have hb5 := bnext (bnext hb23 hb4 hb23.size) hal (bnext hb23 hb4 hb23.size).size
    have hr5 := hr.step hb5
    have hR5 := hRL1.step hal
    clear HL hal hb4 hb23 hb2 hM2 hr hRL1
    generalize w4.alloc (.cells #[.slice E en ec, .slice R rrn rc] 31) = w5 at *
    generalize w4.heap.size = bx at *
    have hbx : bx < w5.heap.size := (Array.getElem?_eq_some_iff.1 hrb).1
    have HRB : Hid (∀ W, Below w5.heap.size w5 W → W.heap[bx]? = some (.cells #[.slice E en ec, .slice R rrn rc] 31 (0, 0))) := Lib.hid fun W hW => (hW.block _ hbx).trans hrb
    clear hrb
    go_wp2
    go_loopw [11] (fun t wr => ∃ k : Nat, k ≤ n ∧ t = .int .i64 (k : Int) ∧ Below w5.heap.size w5 wr) (fun t _ => n - (intOf t).toNat)
    case atStart => exact ⟨0, by omega, rfl, Below.refl _ _⟩
    case round =>
      obtain ⟨k, hk, rfl, hbr⟩ := hrel
      by_cases hlt : k < n
      · obtain ⟨ga, oa, a, rfl, hga, HAa, a0, a1, a2, a3, a4, a5⟩ := (hr5.step hbr).at_ hlt
        have hok := HA.out a (mem_of_get? HAa.out)
        have hD := decide_any g RL a wr (maxl_b hM5 hbr) hok (HLw.out wr hbr)
        have HRD := Lib.hid fun W hW => rdecide_any E en ec R rrn rc RL a W hok (hR5.step hW) hRL2
        have HAC : Hid (∀ W, Below wr.heap.size wr W → W.cell? ⟨ga, oa + k * 6, none⟩ = some (.int .i64 a.src) ∧ W.cell? ⟨ga, oa + k * 6 + 1, none⟩ = some (.string (bs a.host)) ∧ W.cell? ⟨ga, oa + k * 6 + 2, none⟩ = some (.int .i64 a.port) ∧ W.cell? ⟨ga, oa + k * 6 + 3, none⟩ = some (.string (bs a.meth)) ∧ W.cell? ⟨ga, oa + k * 6 + 4, none⟩ = some (.string (bs a.path)) ∧ W.cell? ⟨ga, oa + k * 6 + 5, none⟩ = some (.int .i64 a.now)) := Lib.hid fun W hW =>
          ⟨(hW.cell (p := ⟨_, _, none⟩) hga).trans a0, (hW.cell (p := ⟨_, _, none⟩) hga).trans a1, (hW.cell (p := ⟨_, _, none⟩) hga).trans a2, (hW.cell (p := ⟨_, _, none⟩) hga).trans a3, (hW.cell (p := ⟨_, _, none⟩) hga).trans a4, (hW.cell (p := ⟨_, _, none⟩) hga).trans a5⟩
        unfold decV askV at hD
        unfold decV rlV askV at HRD
        generalize Ac.decide_ RL a = DD at *
        obtain ⟨D1, D2⟩ := DD
        dsimp only at hD HRD
        clear HAa hok HLw hga
        go_wp2_with fail
        refine hD.mono ?_
        rintro e w6 ⟨rfl, hb6⟩
        have hB6 := bnext hbr hb6 hbr.size
        have HB6 : Hid (∀ W, Below w6.heap.size w6 W → Below w5.heap.size w5 W) := Lib.hid fun W hW => bnext hB6 hW hB6.size
        have HAC6 : Hid (∀ W, Below w6.heap.size w6 W → Below wr.heap.size wr W) := Lib.hid fun W hW => bnext hb6 hW hb6.size
        clear hD a0 a1 a2 a3 a4 a5
        go_upto_region 11 with fail
        refine wp_region_detN (n := 11) (S := fun L W => Below w6.heap.size w6 W) (by kernel_rfl) rfl (below_drewN (Below.refl _ _) 1) ?_
        refine' DetS.takeL (i := 0) (v := _) rfl (by kernel_rfl) (by kernel_rfl) (by kernel_rfl) (YS.pure rfl ?sd11_0 ?rd11_0) ?nd11_0
        case rd11_0 => intro L W hS; obtain ⟨k0, k1⟩ := row_facts2w (HRB.out W (HB6.out W hS)); go_simp; first | rfl | skip
        case sd11_0 => exact fun L W _ h => h
        simp only [Act.put, List.setIfInBounds_toArray, List.set_cons_zero, List.set_cons_succ]
        refine' DetS.takeL (i := 1) (v := _) rfl (by kernel_rfl) (by kernel_rfl) (by kernel_rfl) (YS.pure rfl ?sd11_1 ?rd11_1) ?nd11_1
        case rd11_1 => intro L W hS;  go_simp; first | rfl | (rw [if_neg (by omega)] <;> rfl) | (rw [if_neg (by simp; omega)] <;> rfl) | (rw [if_neg (by simp)] <;> rfl)
        case sd11_1 => exact fun L W _ h => h
        simp only [Act.put, List.setIfInBounds_toArray, List.set_cons_zero, List.set_cons_succ]
        refine' DetS.takeL (i := 2) (v := _) rfl (by kernel_rfl) (by kernel_rfl) (by kernel_rfl) (YS.pure rfl ?sd11_2 ?rd11_2) ?nd11_2
        case rd11_2 => intro L W hS;  go_simp; first | rfl | (rw [if_neg (by omega)] <;> rfl) | (rw [if_neg (by simp; omega)] <;> rfl) | (rw [if_neg (by simp)] <;> rfl)
        case sd11_2 => exact fun L W _ h => h
        simp only [Act.put, List.setIfInBounds_toArray, List.set_cons_zero, List.set_cons_succ]
        refine' DetS.takeL (i := 3) (v := _) rfl (by kernel_rfl) (by kernel_rfl) (by kernel_rfl) (YS.pure rfl ?sd11_3 ?rd11_3) ?nd11_3
        case rd11_3 => intro L W hS;  go_simp; first | rfl | (rw [if_neg (by omega)] <;> rfl) | (rw [if_neg (by simp; omega)] <;> rfl) | (rw [if_neg (by simp)] <;> rfl)
        case sd11_3 => exact fun L W _ h => h
        simp only [Act.put, List.setIfInBounds_toArray, List.set_cons_zero, List.set_cons_succ]
        refine' DetS.takeL (i := 4) (v := _) rfl (by kernel_rfl) (by kernel_rfl) (by kernel_rfl) (YS.pure rfl ?sd11_4 ?rd11_4) ?nd11_4
        case rd11_4 => intro L W hS; obtain ⟨k0, k1, k2, k3, k4, k5⟩ := HAC.out W (HAC6.out W hS); go_simp; first | rfl | skip
        case sd11_4 => exact fun L W _ h => h
        simp only [Act.put, List.setIfInBounds_toArray, List.set_cons_zero, List.set_cons_succ]
        refine' DetS.takeL (i := 5) (v := _) rfl (by kernel_rfl) (by kernel_rfl) (by kernel_rfl) (YS.call (f := _) (args := _) rfl ?rd11_5 ?cd11_5) ?nd11_5
        case rd11_5 => intro W; go_simp; constructor <;> rfl
        case cd11_5 =>
          intro L W hL hS
          refine (HRD.out W (HB6.out W hS)).mono ?_
          rintro x w9 ⟨rfl, hb9⟩
          exact ⟨rfl, bnext hS hb9 hS.size⟩
        simp only [Act.put, List.setIfInBounds_toArray, List.set_cons_zero, List.set_cons_succ]
        refine' DetS.takeL (i := 6) (v := _) rfl (by kernel_rfl) (by kernel_rfl) (by kernel_rfl) (YS.pure rfl ?sd11_6 ?rd11_6) ?nd11_6
        case rd11_6 => intro L W hS;  go_simp; first | rfl | (rw [if_neg (by omega)] <;> rfl) | (rw [if_neg (by simp; omega)] <;> rfl) | (rw [if_neg (by simp)] <;> rfl)
        case sd11_6 => exact fun L W _ h => h
        simp only [Act.put, List.setIfInBounds_toArray, List.set_cons_zero, List.set_cons_succ]
        refine' DetS.takeL (i := 7) (v := _) rfl (by kernel_rfl) (by kernel_rfl) (by kernel_rfl) (YS.pure rfl ?sd11_7 ?rd11_7) ?nd11_7
        case rd11_7 => intro L W hS;  go_simp; first | rfl | (rw [if_neg (by omega)] <;> rfl) | (rw [if_neg (by simp; omega)] <;> rfl) | (rw [if_neg (by simp)] <;> rfl)
        case sd11_7 => exact fun L W _ h => h
        simp only [Act.put, List.setIfInBounds_toArray, List.set_cons_zero, List.set_cons_succ]
        refine' DetS.takeL (i := 8) (v := _) rfl (by kernel_rfl) (by kernel_rfl) (by kernel_rfl) (YS.pure rfl ?sd11_8 ?rd11_8) ?nd11_8
        case rd11_8 => intro L W hS;  go_simp; first | rfl | (rw [if_neg (by omega)] <;> rfl) | (rw [if_neg (by simp; omega)] <;> rfl) | (rw [if_neg (by simp)] <;> rfl)
        case sd11_8 => exact fun L W _ h => h
        simp only [Act.put, List.setIfInBounds_toArray, List.set_cons_zero, List.set_cons_succ]
        refine' DetS.takeL (i := 9) (v := _) rfl (by kernel_rfl) (by kernel_rfl) (by kernel_rfl) (YS.pure rfl ?sd11_9 ?rd11_9) ?nd11_9
        case rd11_9 => intro L W hS;  go_simp; first | rfl | (rw [if_neg (by omega)] <;> rfl) | (rw [if_neg (by simp; omega)] <;> rfl) | (rw [if_neg (by simp)] <;> rfl)
        case sd11_9 => exact fun L W _ h => h
        simp only [Act.put, List.setIfInBounds_toArray, List.set_cons_zero, List.set_cons_succ]
        refine' DetS.takeL (i := 10) (v := _) rfl (by kernel_rfl) (by kernel_rfl) (by kernel_rfl) (YS.pure rfl ?sd11_10 ?rd11_10) ?nd11_10
        case rd11_10 => intro L W hS;  go_simp; first | rfl | (rw [if_neg (by omega)] <;> rfl) | (rw [if_neg (by simp; omega)] <;> rfl) | (rw [if_neg (by simp)] <;> rfl)
        case sd11_10 => exact fun L W _ h => h
        simp only [Act.put, List.setIfInBounds_toArray, List.set_cons_zero, List.set_cons_succ]
        refine DetS.done (by kernel_rfl) (fun W hS => ?_) _
        go_wp2
        go_roundw
        case rel => exact ⟨k + 1, by omega, by go_num, HB6.out _ hS⟩
        case measure => simp [intOf] <;> omega
      · obtain rfl : k = n := by omega
        go_wp2
        go_ret
        exact ⟨rfl, bnext hb5 hbr hb5.size⟩
  · obtain rfl := hno h0
    clear hz hno
    go_wp2_with fail
    refine hQ3.mono ?_
    rintro e w4 ⟨E, en, ec, R, rrn, rc, rfl, -, hb4⟩
    have hb5 := bnext hb23 hb4 hb23.size
    have hal := alloc_below w4 (.cells #[.slice E en ec, .slice R rrn rc] 31)
    have HB := Lib.hid (bnext hb5 hal hb5.size)
    have i1 : (re != 0) = true := by rw [bne_iff_ne]; exact h0
    have i2 : (re == 0) = false := by rw [beq_eq_false_iff_ne]; exact h0
    clear hQ3 hb4 hb5 hal h0
    go_wp2
    go_loopw [11] (fun t wr => t = .int .i64 0 ∧ Below w.heap.size w wr) (fun t _ => 0)
    case atStart => exact ⟨rfl, HB.out⟩
    case round =>
      obtain ⟨rfl, hbr⟩ := hrel
      by_cases hn0 : 0 < n
      · have hn1 : (0 : Int) < (n : Int) := by omega
        go_wp2
        go_ret
        exact ⟨rfl, hbr⟩
      · have hn1 : ¬ ((0 : Int) < (n : Int)) := by omega
        go_wp2
        go_ret
        exact ⟨rfl, hbr⟩

theorem own : ownKnob Tryz.prog.godebug = none := by kernel_rfl
theorem contract (H : Type) (enc : TypeId × Value → H) (W : World) (base : Nat) (args : Array Value) (ds gs : List (DataW H)) (before : List MemPlace)
    (hval : ∀ (j : Nat) t v, Tryz.f3.params[j]? = some t → args[j]? = some v → Value.okWide Tryz.prog W .any base t v)
    (hW : DataW.Whole enc Tryz.prog Tryz.f3.params.toList Rows.aclDecidesSpec.vars false W args.toList ds gs before) (hk : Rows.uptoSmall H (ds ++ gs) = true) (hmax : MaxL W) :
    Calls Tryz.prog 3 args W fun e W' => ∃ v, e = .returned v ∧ Rows.aclDecidesSpec.post enc Tryz.prog Tryz.f3 false true false false W args v W' := by
  have hW' := hW
  obtain ⟨p, q, hA0, hV, rfl, hfz, hnd⟩ := hW
  have hA : DataW.TrodAll enc Tryz.prog W 0 (fun _ => true) true Tryz.f3.params.toList args.toList ds p := hA0
  rw [Tryz.params3] at hA hval
  obtain ⟨v0, vs0, d0, ds0, p0, q0, hargs, rfl, rfl, h0, r0⟩ := trodAll_cons hA
  obtain ⟨v1, vs1, d1, ds1, p1, q1, rfl, rfl, rfl, h1, r1⟩ := trodAll_cons r0
  obtain ⟨rfl, rfl, rfl⟩ := trodAll_nil r1
  obtain rfl : args = #[v0, v1] := by cases args; simp_all
  obtain ⟨rfl, rfl⟩ := trodVars_none hV
  have hall := bulks.bound hk
  simp only [List.append_nil, Rows.uptoBulkAll] at hall
  have hb0 : Rows.uptoBulk d0 ≤ 1048576 := by omega
  have hb1 : Rows.uptoBulk d1 ≤ 1048576 := by omega
  clear hall
  obtain ⟨s0, rfl, e0⟩ := opS (hval 0 9 v0 rfl rfl) h0
  obtain ⟨A1, n1, c1, l1, rfl, hr1, hn1, hs1⟩ := opAsks (hval 1 22 v1 rfl rfl) h1 hb1
  have hl0 : s0.length ≤ 1048576 := by have := hb0; rw [e0, bulks.string_eq] at this; omega
  clear hA0
  refine (walk W hmax s0 hl0 A1 n1 c1 l1 hr1 hn1 hs1).mono fun e W' ⟨he, hg⟩ => ?_
  subst he
  exact ⟨_, rfl, post_of_below (pa := p0 ++ (p1 ++ ([]))) (pv := []) hW' (fun _ _ _ => (trodAll_cons_mk (shut_bool Tryz.underlying4 _) trodAll_mk0)) (fun sp hsp => (trodAll_cons_mk (arg_stays laidOut (by kernel_rfl) (of_decide_eq_true (by kernel_rfl)) h0 hg (fun x hx => hW'.lt x (by simp [hx])) sp (fun x hx => hsp x (by simp [hx]))) (trodAll_cons_mk (arg_stays laidOut (by kernel_rfl) (of_decide_eq_true (by kernel_rfl)) h1 hg (fun x hx => hW'.lt x (by simp [hx])) sp (fun x hx => hsp x (by simp [hx]))) trodAll_mk0))) (fun _ _ => rfl) rfl
    hg (ok_one (by kernel_rfl) rfl (okWide_bool_mk Tryz.underlying4 _))⟩

/-- A world for the witness: the listed variables hold what the program lays. -/
noncomputable def laidWorld (os : Os) : World := World.laidAll Tryz.prog os Rows.aclDecidesUptoRow.laid
set_option maxRecDepth 1000000 in
theorem laid_met (os : Os) : laidMet Tryz.prog Rows.aclDecidesUptoRow.laid ((laidWorld os).forCall (fun _ _ => 0) ⟨#[], #[.string ⟨#[]⟩, .slice none 0 0], []⟩).memory :=
  laidMet_laidAll _ (by kernel_rfl) (by kernel_rfl)

theorem reads (os : Os) {H : Type} (enc : TypeId × Value → H) : ∃ places, DataW.whole enc Tryz.prog ((laidWorld os).forCall (fun _ _ => 0) ⟨#[], #[.string ⟨#[]⟩, .slice none 0 0], []⟩).memory Tryz.f3.params.toList Rows.aclDecidesSpec.vars false #[.string ⟨#[]⟩, .slice none 0 0].toList 8 = some ([.lit (.string []), .nil], [], places) :=
  ⟨[], by kernel_rfl⟩

set_option maxRecDepth 100000 in
theorem liftedUpto (os : Os) (started : os.Started) (H : Type) (enc : TypeId × Value → H) (F : Stop.Interp) :
    ReturnsInHanded {} Tryz.checked os 3 .any ((Rows.OpenSpec.upto Rows.aclDecidesSpec).preRow enc Tryz.prog Tryz.f3 Rows.aclDecidesUptoRow.domain false Rows.aclDecidesUptoRow.laid) (((Rows.OpenSpec.upto Rows.aclDecidesSpec).at F).post enc Tryz.prog Tryz.f3 false true false false) := by
  obtain ⟨places, hx⟩ := reads os enc
  refine returnsInHanded_of_row (C := Tryz.checked) (s := Rows.OpenSpec.upto Rows.aclDecidesSpec) own started (by kernel_rfl) Tryz.func3
    (witness_row_atRef (enc := enc) (C := Tryz.checked) false (laidWorld os) #[.string ⟨#[]⟩, .slice none 0 0] (World.laidAll_os _ _ _) (by kernel_rfl) (by kernel_rfl) (by kernel_rfl)
      (OpenSpec.preRow_of_cond 8 hx (by kernel_rfl) (fun k hk => by cases hk; kernel_rfl) (by kernel_rfl) (laid_met os))) ?_
  intro W base args ds gs before hval hW g1 hcond g2 g3 g4 g5
  exact contract H enc W base args ds gs before hval hW (hcond _ rfl) (by first | exact maxl_of g4 | exact maxl_of g3 | exact maxl_of g2 | exact maxl_of g5 | exact maxl_of g1)

theorem saidUpto : Rows.AclDecidesUptoSaid :=
  OpenClaim.holds_of_cond 3 Tryz.f3 rfl rfl rfl rfl rfl rfl rfl ⟨rfl, rfl, rfl, rfl, rfl⟩ rfl rfl rfl rfl rfl (by kernel_rfl) Tryz.func3 (by kernel_rfl)
    (of_decide_eq_true (by kernel_rfl)) (by unfold Func.isWrapper; first | (rw [if_pos (by decide +kernel)]; kernel_rfl) | (rw [if_neg (by decide +kernel)]; exact ⟨rfl, rfl⟩))
    (fun os started H enc _ F => by rw [OpenClaim.pre_eq_preRow]; exact liftedUpto os started H enc F)

theorem plain (f : FuncId) (fn : Func) (hf : Tryz.pinned.checked.prog.funcNamed "conduit/conduitlaw21.AclDecides" = some f) (hfn : Tryz.pinned.checked.prog.funcs[f]? = some fn) :
    true = Tryz.pinned.checked.prog.looks [] ∧ ∀ (j : Nat) t, fn.params[j]? = some t → Tryz.pinned.checked.prog.wantsStandIn t = false := by
  obtain rfl : f = 3 := Option.some.inj ((show Tryz.prog.funcNamed "conduit/conduitlaw21.AclDecides" = some 3 by kernel_rfl).symm.trans hf) |>.symm
  obtain rfl : fn = Tryz.f3 := (Option.some.inj (Tryz.func3.symm.trans hfn)).symm
  refine ⟨by kernel_rfl, fun j t ht => ?_⟩
  rw [Tryz.params3] at ht
  have hm := Array.mem_of_getElem? ht
  simp only [List.mem_toArray, List.mem_cons, List.not_mem_nil, or_false] at hm
  rcases hm with rfl | rfl
  · exact (show Tryz.prog.wantsStandIn 9 = false by kernel_rfl)
  · exact (show Tryz.prog.wantsStandIn 22 = false by kernel_rfl)

theorem proved : Rows.AclDecidesUptoCardSaid :=
  Claim7.holds_tied_plain_at .later [] _ _ _ _ saidUpto (fun _ h => by cases h) (by kernel_rfl) (fun _ h => by cases h) aclDecidesUpto_row_tie rfl ⟨rfl, rfl⟩ (by kernel_rfl) rfl plain (by kernel_rfl)
end Go.Proofs.YtgkphjbcaidcpaaGreatDoor.aclDecides
