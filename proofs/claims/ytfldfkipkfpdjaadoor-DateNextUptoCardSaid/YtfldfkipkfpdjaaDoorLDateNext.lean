/- DateNext: for every input within the second form's bound the law answers true and leaves its arguments as they were. Condition: the bulk of the arguments at most 1048576. -/
import Derived.Test.YtfldfkipkfpdjaaDoorCards
import Derived.Test.YtfldfkipkfpdjaaDoorTie
import Derived.Test.YtfldfkipkfpdjaaDoorDtH
import Derived.Deep.QuietTactic
import Derived.BigQuiet
import Derived.Test.YtfldfkipkfpdjaaDoorOpenS
import Derived.Test.YtfldfkipkfpdjaaDoorBulk
import Derived.WalkKit
import Derived.ProofKit
import Derived.OpenShut
import Derived.JoinedCond
import Derived.Deep.DeepHandedRow
import Derived.Deep.DeepWitnessRowRef
import Derived.Lib.LaidTab
import Derived.Stop.LaidErr
set_option linter.unusedVariables false
set_option linter.unusedSimpArgs false
set_option maxRecDepth 100000
namespace Go.Proofs.YtfldfkipkfpdjaaDoor.dateNext
open Go.ChangeShapes Go.WideShapes Go.ChangeAt Go.RowKit

theorem wk3_ne : ∀ i j : Fin 7, i ≠ j → (Dt.wk3 i.val == Dt.wk3 j.val) = false := by decide
theorem form0_cut (v : Int) : (Dt.form0 v).length = 29 ∧ (Dt.form0 v).take 3 = Dt.wk3 (Dt.wd (v / 86400)) ∧ (Dt.form0 v).drop 16 = [32] ++ Dt.hms (v % 86400) ++ Dt.gmt := by
  have a := Dt.moN_len (Dt.cM (v / 86400)).toNat
  have b := wk_len (Dt.wd (v / 86400)) (Dt.wd_lt _)
  have c : (Dt.wk3 (Dt.wd (v / 86400))).length = 3 := by unfold Dt.wk3; simp; omega
  unfold Dt.form0 Dt.f0
  generalize Dt.wk3 (Dt.wd (v / 86400)) = P at *
  generalize Dt.moN (Dt.cM (v / 86400)).toNat = M at *
  obtain ⟨p0, p1, p2, rfl⟩ : ∃ p0 p1 p2, P = [p0, p1, p2] := by match P, c with | [x, y, z], _ => exact ⟨x, y, z, rfl⟩
  obtain ⟨m0, m1, m2, rfl⟩ : ∃ p0 p1 p2, M = [p0, p1, p2] := by match M, a with | [x, y, z], _ => exact ⟨x, y, z, rfl⟩
  exact ⟨rfl, rfl, rfl⟩
set_option maxHeartbeats 1000000 in
theorem walk (w : World) (ht : Tab w) (v : Int) (h1 : -9223372036854775808 ≤ v) (h2 : v ≤ 9223372036854775807) :
    Calls Tryd.prog 4 #[.int .i64 v] w fun e w' => e = .returned (.bool true) ∧ Below w.heap.size w w' := by
  by_cases h : 0 ≤ v ∧ v ≤ 253402214399
  · have hn : ¬ v < 0 := by omega
    have hc : ¬ 253402214399 < v := by omega
    have HA := Lib.hid fun W hT => dshow_any v W hT
    have HB := Lib.hid fun W hT => dshow_any (v + 86400) W hT
    have HC := Lib.hid fun W hT => dshow_any (v % 604800) W hT
    rw [show shw v = (Dt.form0 v, 0) from if_pos (by omega)] at HA
    rw [show shw (v + 86400) = (Dt.form0 (v + 86400), 0) from if_pos (by omega)] at HB
    rw [show shw (v % 604800) = (Dt.form0 (v % 604800), 0) from if_pos (by omega)] at HC
    dsimp only at HA HB HC
    obtain ⟨la, pa, qa⟩ := form0_cut v
    obtain ⟨lb, pb, qb⟩ := form0_cut (v + 86400)
    obtain ⟨lc, pc, -⟩ := form0_cut (v % 604800)
    have e1 : Dt.wd (v % 604800 / 86400) = Dt.wd (v / 86400) := by unfold Dt.wd; omega
    have e2 : (v + 86400) % 86400 = v % 86400 := by omega
    have e3 := wk3_ne ⟨Dt.wd (v / 86400), Dt.wd_lt _⟩ ⟨Dt.wd ((v + 86400) / 86400), Dt.wd_lt _⟩ (by
      intro hq
      have hq2 := congrArg Fin.val hq
      dsimp only at hq2
      unfold Dt.wd at hq2
      omega)
    dsimp only at e3
    rw [e1] at pc
    rw [e2] at qb
    generalize Dt.form0 v = A at *
    generalize Dt.form0 (v + 86400) = B at *
    generalize Dt.form0 (v % 604800) = C at *
    generalize Dt.wk3 (Dt.wd (v / 86400)) = T at *
    generalize Dt.wk3 (Dt.wd ((v + 86400) / 86400)) = T2 at *
    have hu : ([32] ++ Dt.hms (v % 86400) ++ Dt.gmt).length = 13 := rfl
    generalize [32] ++ Dt.hms (v % 86400) ++ Dt.gmt = U at *
    have hu2 : U.take 13 = U := by rw [← hu, List.take_length]
    clear e1 e2
    have m1 : v % 604800 < 604800 := by omega
    generalize hv7 : v % 604800 = v7 at *
    have HV7 := Lib.hid hv7
    clear hv7
    go_enter Tryd.func4, Tryd.ntmps4
    go_wp2_with fail
    refine (alive_any w ht).mono ?_
    rintro e w1 ⟨rfl, hb1⟩
    have ht1 := tab_b ht hb1
    go_wp2_with fail
    refine (HA.out _ ht1).mono ?_
    rintro e w2 ⟨rfl, hb2⟩
    have ht2 := tab_b ht1 hb2
    have hB := bnext hb1 hb2 hb1.size
    clear hb1 hb2
    go_wp2_with fail
    refine (HB.out _ ht2).mono ?_
    rintro e w3 ⟨rfl, hb3⟩
    have ht3 := tab_b ht2 hb3
    replace hB := bnext hB hb3 hB.size
    clear hb3
    go_wp2_with fail
    rw [HV7.out]
    refine (HC.out _ ht3).mono ?_
    rintro e w4 ⟨rfl, hb4⟩
    replace hB := bnext hB hb4 hB.size
    clear hb4
    go_upto_region 10 with fail
    go_quiet (fail)
    go_wp2_with fail
    go_ret
    exact ⟨rfl, ⟨hB.os, hB.tape, hB.output, hB.size, hB.block⟩⟩
  · by_cases hn : v < 0
    · go_enter Tryd.func4, Tryd.ntmps4
      go_wp2_with fail
      refine (alive_any w ht).mono ?_
      rintro e w1 ⟨rfl, hb1⟩
      go_wp2_with fail
      go_ret
      exact ⟨rfl, hb1⟩
    · have hc : 253402214399 < v := by omega
      go_enter Tryd.func4, Tryd.ntmps4
      go_wp2_with fail
      refine (alive_any w ht).mono ?_
      rintro e w1 ⟨rfl, hb1⟩
      go_wp2_with fail
      go_ret
      exact ⟨rfl, hb1⟩

theorem tab_of {W : World} (h : laidMet Tryd.prog Rows.dateNextUptoRow.laid W) : Tab W :=
  Lib.tabIs_of_head (t := 101) (e := 77) (n := 20) (g := 3) (by kernel_rfl) (by kernel_rfl) (by kernel_rfl) (by kernel_rfl) (by kernel_rfl) (by kernel_rfl) ((h).tail).tail
theorem own : ownKnob Tryd.prog.godebug = none := by kernel_rfl
theorem contract (H : Type) (enc : TypeId × Value → H) (W : World) (base : Nat) (args : Array Value) (ds gs : List (DataW H)) (before : List MemPlace)
    (hval : ∀ (j : Nat) t v, Tryd.f4.params[j]? = some t → args[j]? = some v → Value.okWide Tryd.prog W .any base t v)
    (hW : DataW.Whole enc Tryd.prog Tryd.f4.params.toList Rows.dateNextSpec.vars false W args.toList ds gs before) (hk : Rows.uptoSmall H (ds ++ gs) = true) (htab : Tab W) :
    Calls Tryd.prog 4 args W fun e W' => ∃ v, e = .returned v ∧ Rows.dateNextSpec.post enc Tryd.prog Tryd.f4 false true false false W args v W' := by
  have hW' := hW
  obtain ⟨p, q, hA0, hV, rfl, hfz, hnd⟩ := hW
  have hA : DataW.TrodAll enc Tryd.prog W 0 (fun _ => true) true Tryd.f4.params.toList args.toList ds p := hA0
  rw [Tryd.params4] at hA hval
  obtain ⟨v0, vs0, d0, ds0, p0, q0, hargs, rfl, rfl, h0, r0⟩ := trodAll_cons hA
  obtain ⟨rfl, rfl, rfl⟩ := trodAll_nil r0
  obtain rfl : args = #[v0] := by cases args; simp_all
  obtain ⟨rfl, rfl⟩ := trodVars_none hV
  have hall := bulks.bound hk
  simp only [List.append_nil, Rows.uptoBulkAll] at hall
  have hb0 : Rows.uptoBulk d0 ≤ 1048576 := by omega
  clear hall
  obtain ⟨i0, rfl, hi0, hj0⟩ := opI (hval 0 3 v0 rfl rfl) h0
  clear hA0
  refine (walk W htab i0 hi0 hj0).mono fun e W' ⟨he, hg⟩ => ?_
  subst he
  exact ⟨_, rfl, post_of_below (pa := p0 ++ ([])) (pv := []) hW' (fun _ _ _ => (trodAll_cons_mk (shut_bool Tryd.underlying4 _) trodAll_mk0)) (fun sp hsp => (trodAll_cons_mk (arg_stays laidOut (by kernel_rfl) (of_decide_eq_true (by kernel_rfl)) h0 hg (fun x hx => hW'.lt x (by simp [hx])) sp (fun x hx => hsp x (by simp [hx]))) trodAll_mk0)) (fun _ _ => rfl) rfl
    hg (ok_one (by kernel_rfl) rfl (okWide_bool_mk Tryd.underlying4 _))⟩

/-- A world for the witness: the settled one, the listed variables holding what the program lays. -/
noncomputable def laidWorld (os : Os) : World :=
  { (World.holding Tryd.prog os ⟨#[], #[], []⟩) with heap := ((((World.holding Tryd.prog os ⟨#[], #[], []⟩).heap.modify 4 fun
      | .cells _ t frozen => .cells #[.int .u8 0, .int .u8 1, .int .u8 28, .int .u8 2, .int .u8 29, .int .u8 14, .int .u8 24, .int .u8 3, .int .u8 30, .int .u8 22, .int .u8 20, .int .u8 15, .int .u8 25, .int .u8 17, .int .u8 4, .int .u8 8, .int .u8 31, .int .u8 27, .int .u8 13, .int .u8 23, .int .u8 21, .int .u8 19, .int .u8 16, .int .u8 7, .int .u8 26, .int .u8 12, .int .u8 18, .int .u8 6, .int .u8 11, .int .u8 5, .int .u8 10, .int .u8 9] t frozen
      | o => o).modify 5 fun
      | .cells _ t frozen => .cells #[.int .u8 0, .int .u8 1, .int .u8 56, .int .u8 2, .int .u8 57, .int .u8 49, .int .u8 28, .int .u8 3, .int .u8 61, .int .u8 58, .int .u8 42, .int .u8 50, .int .u8 38, .int .u8 29, .int .u8 17, .int .u8 4, .int .u8 62, .int .u8 47, .int .u8 59, .int .u8 36, .int .u8 45, .int .u8 43, .int .u8 51, .int .u8 22, .int .u8 53, .int .u8 39, .int .u8 33, .int .u8 30, .int .u8 24, .int .u8 18, .int .u8 12, .int .u8 5, .int .u8 63, .int .u8 55, .int .u8 48, .int .u8 27, .int .u8 60, .int .u8 41, .int .u8 37, .int .u8 16, .int .u8 46, .int .u8 35, .int .u8 44, .int .u8 21, .int .u8 52, .int .u8 32, .int .u8 23, .int .u8 11, .int .u8 54, .int .u8 26, .int .u8 40, .int .u8 15, .int .u8 34, .int .u8 20, .int .u8 31, .int .u8 10, .int .u8 25, .int .u8 14, .int .u8 19, .int .u8 9, .int .u8 13, .int .u8 8, .int .u8 7, .int .u8 6] t frozen
      | o => o).modify 3 fun
      | .cells _ t frozen => .cells #[.int .u64 1, .int .u64 10, .int .u64 100, .int .u64 1000, .int .u64 10000, .int .u64 100000, .int .u64 1000000, .int .u64 10000000, .int .u64 100000000, .int .u64 1000000000, .int .u64 10000000000, .int .u64 100000000000, .int .u64 1000000000000, .int .u64 10000000000000, .int .u64 100000000000000, .int .u64 1000000000000000, .int .u64 10000000000000000, .int .u64 100000000000000000, .int .u64 1000000000000000000, .int .u64 10000000000000000000] t frozen
      | o => o) }
theorem laid_met (os : Os) : laidMet Tryd.prog Rows.dateNextUptoRow.laid ((laidWorld os).forCall (fun _ _ => 0) ⟨#[], #[.int .i64 0], []⟩).memory :=
  laidMet_of_run' 8 (by kernel_rfl) (by kernel_rfl)
theorem reads (os : Os) {H : Type} (enc : TypeId × Value → H) : ∃ places, DataW.whole enc Tryd.prog ((laidWorld os).forCall (fun _ _ => 0) ⟨#[], #[.int .i64 0], []⟩).memory Tryd.f4.params.toList Rows.dateNextSpec.vars false #[.int .i64 0].toList 8 = some ([.lit (.int .i64 0)], [], places) :=
  ⟨[], by kernel_rfl⟩

set_option maxRecDepth 100000 in
theorem liftedUpto (os : Os) (started : os.Started) (H : Type) (enc : TypeId × Value → H) (F : Stop.Interp) :
    ReturnsInHanded {} Tryd.checked os 4 .any ((Rows.OpenSpec.upto Rows.dateNextSpec).preRow enc Tryd.prog Tryd.f4 Rows.dateNextUptoRow.domain false Rows.dateNextUptoRow.laid) (((Rows.OpenSpec.upto Rows.dateNextSpec).at F).post enc Tryd.prog Tryd.f4 false true false false) := by
  obtain ⟨places, hx⟩ := reads os enc
  refine returnsInHanded_of_row (C := Tryd.checked) (s := Rows.OpenSpec.upto Rows.dateNextSpec) own started (by kernel_rfl) Tryd.func4
    (witness_row_at (enc := enc) (C := Tryd.checked) false (laidWorld os) #[.int .i64 0] rfl (by kernel_rfl) (by kernel_rfl) (by kernel_rfl)
      (OpenSpec.preRow_of_cond 8 hx (by kernel_rfl) (fun k hk => by cases hk; kernel_rfl) (by kernel_rfl) (laid_met os))) ?_
  intro W base args ds gs before hval hW g1 hcond g2 g3 g4 g5
  exact contract H enc W base args ds gs before hval hW (hcond _ rfl) (by first | exact tab_of g2 | exact tab_of g3 | exact tab_of g4 | exact tab_of g5 | exact tab_of g1)

theorem saidUpto : Rows.DateNextUptoSaid :=
  OpenClaim.holds_of_cond 4 Tryd.f4 rfl rfl rfl rfl rfl rfl rfl ⟨rfl, rfl, rfl, rfl, rfl⟩ rfl rfl rfl rfl rfl (by kernel_rfl) Tryd.func4 (by kernel_rfl)
    (of_decide_eq_true (by kernel_rfl)) (by unfold Func.isWrapper; first | (rw [if_pos (by decide +kernel)]; kernel_rfl) | (rw [if_neg (by decide +kernel)]; exact ⟨rfl, rfl⟩))
    (fun os started H enc _ F => by rw [OpenClaim.pre_eq_preRow]; exact liftedUpto os started H enc F)

theorem plain (f : FuncId) (fn : Func) (hf : Tryd.pinned.checked.prog.funcNamed "conduit/conduitlaw02.DateNext" = some f) (hfn : Tryd.pinned.checked.prog.funcs[f]? = some fn) :
    true = Tryd.pinned.checked.prog.looks [] ∧ ∀ (j : Nat) t, fn.params[j]? = some t → Tryd.pinned.checked.prog.wantsStandIn t = false := by
  obtain rfl : f = 4 := Option.some.inj ((show Tryd.prog.funcNamed "conduit/conduitlaw02.DateNext" = some 4 by kernel_rfl).symm.trans hf) |>.symm
  obtain rfl : fn = Tryd.f4 := (Option.some.inj (Tryd.func4.symm.trans hfn)).symm
  refine ⟨by kernel_rfl, fun j t ht => ?_⟩
  rw [Tryd.params4] at ht
  have hm := Array.mem_of_getElem? ht
  simp only [List.mem_toArray, List.mem_cons, List.not_mem_nil, or_false] at hm
  rcases hm with rfl
  · exact (show Tryd.prog.wantsStandIn 3 = false by kernel_rfl)

theorem proved : Rows.DateNextUptoCardSaid :=
  Claim7.holds_tied_plain_at .later [] _ _ _ _ saidUpto (fun _ h => by cases h) (by kernel_rfl) (fun _ h => by cases h) dateNextUpto_row_tie rfl ⟨rfl, rfl⟩ (by kernel_rfl) rfl plain (by kernel_rfl)
end Go.Proofs.YtfldfkipkfpdjaaDoor.dateNext
