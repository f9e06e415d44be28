/- DateForms: for every input within the second form's bound the law answers true and leaves its arguments as they were. Condition: the bulk of the arguments at most 1048576. -/
import Derived.Test.YtfldfkipkfpdjaaDoorCards
import Derived.Test.YtfldfkipkfpdjaaDoorTie
import Derived.Test.YtfldfkipkfpdjaaDoorDtH
import Derived.Deep.LoopGhost
import Derived.Test.YtfldfkipkfpdjaaDoorOpenS
import Derived.Test.YtfldfkipkfpdjaaDoorBulk
import Derived.WalkKit
import Derived.ProofKit
import Derived.OpenShut
import Derived.JoinedCond
import Derived.Deep.DeepHandedRow
import Derived.Deep.DeepWitnessRowRef
import Derived.Lib.LaidTab
import Derived.Stop.LaidErr
set_option linter.unusedVariables false
set_option linter.unusedSimpArgs false
set_option maxRecDepth 100000
namespace Go.Proofs.YtfldfkipkfpdjaaDoor.dateForms
open Go.ChangeShapes Go.WideShapes Go.ChangeAt Go.RowKit

def fm (v : Int) (k : Nat) : List UInt8 := if k = 0 then Dt.form0 v else if k = 1 then Dt.form1 v else Dt.form2 v
theorem fm_len (v : Int) (k : Nat) : (fm v k).length ≤ 100 := by
  have a := Dt.moN_len (Dt.cM (v / 86400)).toNat
  have b := wk_len (Dt.wd (v / 86400)) (Dt.wd_lt _)
  have c : (Dt.dd2 (Dt.cD (v / 86400))).length = 2 := by unfold Dt.dd2; split <;> rfl
  unfold fm
  split
  · unfold Dt.form0 Dt.f0; simp [Dt.wk3, Dt.pad2, Dt.pad4, Dt.hms, Dt.gmt, a]; omega
  · split
    · unfold Dt.form1; split
      · unfold Dt.f1; simp [Dt.pad2, Dt.pad4, Dt.hms, Dt.gmt, a]; omega
      · simp
    · unfold Dt.form2 Dt.f2; simp [Dt.wk3, Dt.pad2, Dt.pad4, Dt.hms, Dt.gmt, a, c]; omega
theorem fm_parse {v : Int} (h : Dt.inR v) {k : Nat} (hk : k < 3) (hne : fm v k ≠ []) : Dt.dparse (fm v k) = (v, 0) := by
  refine Dt.dparse_of ⟨h, ?_⟩
  unfold fm at *
  by_cases h0 : k = 0
  · subst h0; exact .inl rfl
  · rw [if_neg h0] at *
    by_cases h1 : k = 1
    · rw [if_pos h1] at *
      right; left
      refine ⟨?_, rfl⟩
      by_cases hy : Dt.cY (v / 86400) < 2070
      · exact hy
      · exfalso; apply hne; unfold Dt.form1; rw [if_neg hy]
    · rw [if_neg h1]; exact .inr (.inr rfl)
set_option maxHeartbeats 1000000 in
theorem walk (w : World) (ht : Tab w) (v : Int) (h1 : -9223372036854775808 ≤ v) (h2 : v ≤ 9223372036854775807) :
    Calls Tryd.prog 6 #[.int .i64 v] w fun e w' => e = .returned (.bool true) ∧ Below w.heap.size w w' := by
  by_cases h : 0 ≤ v ∧ v ≤ 253402300799
  · have hn : ¬ v < 0 := by omega
    have hc : ¬ 253402300799 < v := by omega
    have HF := Lib.hid fun W => Forms_any v W h.1 h.2
    have HFP := Lib.hid fun (k : Nat) (hk : k < 3) => fm_parse (v := v) h hk
    have HFL := Lib.hid (fm_len v)
    rw [show F3 v = .agg #[.string (bs (fm v 0)), .string (bs (fm v 1)), .string (bs (fm v 2))] from rfl] at HF
    generalize fm v = G at *
    go_enter Tryd.func6, Tryd.ntmps6
    go_wp2_with fail
    refine (alive_any w ht).mono ?_
    rintro e w1 ⟨rfl, hb1⟩
    go_wp2_with fail
    refine (HF.out _).mono ?_
    rintro e w2 ⟨rfl, hb2⟩
    have hB := bnext hb1 hb2 hb1.size
    have hal := alloc_below w2 (.cells #[.string (bs (G 0)), .string (bs (G 1)), .string (bs (G 2))] 30)
    have hro := heap_alloc_new w2 (.cells #[.string (bs (G 0)), .string (bs (G 1)), .string (bs (G 2))] 30)
    replace hB := bnext hB hal hB.size
    clear hb1 hb2 hal
    go_wp2
    generalize w2.alloc (.cells #[.string (bs (G 0)), .string (bs (G 1)), .string (bs (G 2))] 30) = w3 at *
    generalize hbl : w2.heap.size = b at *
    clear hbl
    go_loopg [4, 5, 6] 3 (fun r i x y wr => ∃ k : Nat, k ≤ 3 ∧ r + k = 3 ∧ i = .int .i64 (k : Int) ∧ wr.heap[b]? = some (.cells #[.string (bs (G 0)), .string (bs (G 1)), .string (bs (G 2))] 30 (0, 0)) ∧ Below w.heap.size w wr)
    case atStart => exact ⟨0, by omega, by omega, rfl, hro, hB⟩
    case round =>
      clear hro hB
      obtain ⟨k, hk, hr, rfl, hro, hB⟩ := hrel
      obtain ⟨wo, rfl⟩ : ∃ wo, wo = wr := ⟨_, rfl⟩
      by_cases hlt : k < 3
      · have hcell : wo.cell? ⟨b, k, none⟩ = some (.string (bs (G k))) := by
          have hq : k = 0 ∨ k = 1 ∨ k = 2 := by omega
          have hcc := row3 hro
          rcases hq with rfl | rfl | rfl
          · exact hcc.1
          · exact hcc.2.1
          · exact hcc.2.2.1
        have k0 : (0 : Int) ≤ (k : Int) := by omega
        have k1 : (k : Int) < 3 := by omega
        have hP := fun W => parse_any (G k) W (by have := HFL.out k; omega)
        have HE : Hid (G k ≠ [] → Dt.dparse (G k) = (v, 0)) := Lib.hid (fun q => HFP.out k hlt q)
        have HP := Lib.hid hP
        clear hP
        go_wp2_with fail
        refine (HP.out _).mono ?_
        rintro e wp ⟨rfl, hbp⟩
        replace hro := row_keepB hro hbp
        replace hB := bnext hB hbp hB.size
        clear hbp hcell
        have hcell : wp.cell? ⟨b, k, none⟩ = some (.string (bs (G k))) := by
          have hq : k = 0 ∨ k = 1 ∨ k = 2 := by omega
          have hcc := row3 hro
          rcases hq with rfl | rfl | rfl
          · exact hcc.1
          · exact hcc.2.1
          · exact hcc.2.2.1
        have HRO := Lib.hid hro
        have HB := Lib.hid hB
        clear hro hB
        by_cases hE : G k = []
        · rw [hE] at hcell
          generalize Dt.dparse (G k) = R at *
          go_wp2_with fail
          go_roundg (3 - (k + 1))
          case measure => omega
          case rel => exact ⟨k + 1, by omega, by omega, by go_num, HRO.out, HB.out⟩
        · rw [HE.out hE]
          go_wp2_with fail
          go_roundg (3 - (k + 1))
          case measure => omega
          case rel => exact ⟨k + 1, by omega, by omega, by go_num, HRO.out, HB.out⟩
      · obtain rfl : k = 3 := by omega
        clear hro
        go_wp2_with fail
        go_ret
        exact ⟨rfl, hB⟩
  · by_cases hn : v < 0
    · go_enter Tryd.func6, Tryd.ntmps6
      go_wp2_with fail
      refine (alive_any w ht).mono ?_
      rintro e w1 ⟨rfl, hb1⟩
      go_wp2_with fail
      go_ret
      exact ⟨rfl, hb1⟩
    · have hc : 253402300799 < v := by omega
      go_enter Tryd.func6, Tryd.ntmps6
      go_wp2_with fail
      refine (alive_any w ht).mono ?_
      rintro e w1 ⟨rfl, hb1⟩
      go_wp2_with fail
      go_ret
      exact ⟨rfl, hb1⟩

theorem tab_of {W : World} (h : laidMet Tryd.prog Rows.dateFormsUptoRow.laid W) : Tab W :=
  Lib.tabIs_of_head (t := 101) (e := 77) (n := 20) (g := 3) (by kernel_rfl) (by kernel_rfl) (by kernel_rfl) (by kernel_rfl) (by kernel_rfl) (by kernel_rfl) ((h).tail).tail
theorem own : ownKnob Tryd.prog.godebug = none := by kernel_rfl
theorem contract (H : Type) (enc : TypeId × Value → H) (W : World) (base : Nat) (args : Array Value) (ds gs : List (DataW H)) (before : List MemPlace)
    (hval : ∀ (j : Nat) t v, Tryd.f6.params[j]? = some t → args[j]? = some v → Value.okWide Tryd.prog W .any base t v)
    (hW : DataW.Whole enc Tryd.prog Tryd.f6.params.toList Rows.dateFormsSpec.vars false W args.toList ds gs before) (hk : Rows.uptoSmall H (ds ++ gs) = true) (htab : Tab W) :
    Calls Tryd.prog 6 args W fun e W' => ∃ v, e = .returned v ∧ Rows.dateFormsSpec.post enc Tryd.prog Tryd.f6 false true false false W args v W' := by
  have hW' := hW
  obtain ⟨p, q, hA0, hV, rfl, hfz, hnd⟩ := hW
  have hA : DataW.TrodAll enc Tryd.prog W 0 (fun _ => true) true Tryd.f6.params.toList args.toList ds p := hA0
  rw [Tryd.params6] at hA hval
  obtain ⟨v0, vs0, d0, ds0, p0, q0, hargs, rfl, rfl, h0, r0⟩ := trodAll_cons hA
  obtain ⟨rfl, rfl, rfl⟩ := trodAll_nil r0
  obtain rfl : args = #[v0] := by cases args; simp_all
  obtain ⟨rfl, rfl⟩ := trodVars_none hV
  have hall := bulks.bound hk
  simp only [List.append_nil, Rows.uptoBulkAll] at hall
  have hb0 : Rows.uptoBulk d0 ≤ 1048576 := by omega
  clear hall
  obtain ⟨i0, rfl, hi0, hj0⟩ := opI (hval 0 3 v0 rfl rfl) h0
  clear hA0
  refine (walk W htab i0 hi0 hj0).mono fun e W' ⟨he, hg⟩ => ?_
  subst he
  exact ⟨_, rfl, post_of_below (pa := p0 ++ ([])) (pv := []) hW' (fun _ _ _ => (trodAll_cons_mk (shut_bool Tryd.underlying4 _) trodAll_mk0)) (fun sp hsp => (trodAll_cons_mk (arg_stays laidOut (by kernel_rfl) (of_decide_eq_true (by kernel_rfl)) h0 hg (fun x hx => hW'.lt x (by simp [hx])) sp (fun x hx => hsp x (by simp [hx]))) trodAll_mk0)) (fun _ _ => rfl) rfl
    hg (ok_one (by kernel_rfl) rfl (okWide_bool_mk Tryd.underlying4 _))⟩

/-- A world for the witness: the settled one, the listed variables holding what the program lays. -/
noncomputable def laidWorld (os : Os) : World :=
  { (World.holding Tryd.prog os ⟨#[.cells #[.string ⟨#[118, 97, 108, 117, 101, 32, 111, 117, 116, 32, 111, 102, 32, 114, 97, 110, 103, 101]⟩] 107, .cells #[.string ⟨#[105, 110, 118, 97, 108, 105, 100, 32, 115, 121, 110, 116, 97, 120]⟩] 107], #[], []⟩) with heap := ((((((World.holding Tryd.prog os ⟨#[.cells #[.string ⟨#[118, 97, 108, 117, 101, 32, 111, 117, 116, 32, 111, 102, 32, 114, 97, 110, 103, 101]⟩] 107, .cells #[.string ⟨#[105, 110, 118, 97, 108, 105, 100, 32, 115, 121, 110, 116, 97, 120]⟩] 107], #[], []⟩).heap.modify 4 fun
      | .cells _ t frozen => .cells #[.int .u8 0, .int .u8 1, .int .u8 28, .int .u8 2, .int .u8 29, .int .u8 14, .int .u8 24, .int .u8 3, .int .u8 30, .int .u8 22, .int .u8 20, .int .u8 15, .int .u8 25, .int .u8 17, .int .u8 4, .int .u8 8, .int .u8 31, .int .u8 27, .int .u8 13, .int .u8 23, .int .u8 21, .int .u8 19, .int .u8 16, .int .u8 7, .int .u8 26, .int .u8 12, .int .u8 18, .int .u8 6, .int .u8 11, .int .u8 5, .int .u8 10, .int .u8 9] t frozen
      | o => o).modify 5 fun
      | .cells _ t frozen => .cells #[.int .u8 0, .int .u8 1, .int .u8 56, .int .u8 2, .int .u8 57, .int .u8 49, .int .u8 28, .int .u8 3, .int .u8 61, .int .u8 58, .int .u8 42, .int .u8 50, .int .u8 38, .int .u8 29, .int .u8 17, .int .u8 4, .int .u8 62, .int .u8 47, .int .u8 59, .int .u8 36, .int .u8 45, .int .u8 43, .int .u8 51, .int .u8 22, .int .u8 53, .int .u8 39, .int .u8 33, .int .u8 30, .int .u8 24, .int .u8 18, .int .u8 12, .int .u8 5, .int .u8 63, .int .u8 55, .int .u8 48, .int .u8 27, .int .u8 60, .int .u8 41, .int .u8 37, .int .u8 16, .int .u8 46, .int .u8 35, .int .u8 44, .int .u8 21, .int .u8 52, .int .u8 32, .int .u8 23, .int .u8 11, .int .u8 54, .int .u8 26, .int .u8 40, .int .u8 15, .int .u8 34, .int .u8 20, .int .u8 31, .int .u8 10, .int .u8 25, .int .u8 14, .int .u8 19, .int .u8 9, .int .u8 13, .int .u8 8, .int .u8 7, .int .u8 6] t frozen
      | o => o).modify 3 fun
      | .cells _ t frozen => .cells #[.int .u64 1, .int .u64 10, .int .u64 100, .int .u64 1000, .int .u64 10000, .int .u64 100000, .int .u64 1000000, .int .u64 10000000, .int .u64 100000000, .int .u64 1000000000, .int .u64 10000000000, .int .u64 100000000000, .int .u64 1000000000000, .int .u64 10000000000000, .int .u64 100000000000000, .int .u64 1000000000000000, .int .u64 10000000000000000, .int .u64 100000000000000000, .int .u64 1000000000000000000, .int .u64 10000000000000000000] t frozen
      | o => o).modify 2 fun
      | .cells _ t frozen => .cells #[.iface 105 (.pointer (some ⟨(World.settled Tryd.prog os).heap.size + 0, 0, none⟩))] t frozen
      | o => o).modify 1 fun
      | .cells _ t frozen => .cells #[.iface 105 (.pointer (some ⟨(World.settled Tryd.prog os).heap.size + 1, 0, none⟩))] t frozen
      | o => o) }
theorem laid_met (os : Os) : laidMet Tryd.prog Rows.dateFormsUptoRow.laid ((laidWorld os).forCall (fun _ _ => 0) ⟨#[], #[.int .i64 0], []⟩).memory :=
  laidMet_of_run' 8 (by kernel_rfl) (by kernel_rfl)
theorem reads (os : Os) {H : Type} (enc : TypeId × Value → H) : ∃ places, DataW.whole enc Tryd.prog ((laidWorld os).forCall (fun _ _ => 0) ⟨#[], #[.int .i64 0], []⟩).memory Tryd.f6.params.toList Rows.dateFormsSpec.vars false #[.int .i64 0].toList 8 = some ([.lit (.int .i64 0)], [], places) :=
  ⟨[], by kernel_rfl⟩

set_option maxRecDepth 100000 in
theorem liftedUpto (os : Os) (started : os.Started) (H : Type) (enc : TypeId × Value → H) (F : Stop.Interp) :
    ReturnsInHanded {} Tryd.checked os 6 .any ((Rows.OpenSpec.upto Rows.dateFormsSpec).preRow enc Tryd.prog Tryd.f6 Rows.dateFormsUptoRow.domain false Rows.dateFormsUptoRow.laid) (((Rows.OpenSpec.upto Rows.dateFormsSpec).at F).post enc Tryd.prog Tryd.f6 false true false false) := by
  obtain ⟨places, hx⟩ := reads os enc
  refine returnsInHanded_of_row (C := Tryd.checked) (s := Rows.OpenSpec.upto Rows.dateFormsSpec) own started (by kernel_rfl) Tryd.func6
    (witness_row_atRef (enc := enc) (C := Tryd.checked) false (laidWorld os) #[.int .i64 0] rfl (by kernel_rfl) (by kernel_rfl) (by kernel_rfl)
      (OpenSpec.preRow_of_cond 8 hx (by kernel_rfl) (fun k hk => by cases hk; kernel_rfl) (by kernel_rfl) (laid_met os))) ?_
  intro W base args ds gs before hval hW g1 hcond g2 g3 g4 g5
  exact contract H enc W base args ds gs before hval hW (hcond _ rfl) (by first | exact tab_of g2 | exact tab_of g3 | exact tab_of g4 | exact tab_of g5 | exact tab_of g1)

theorem saidUpto : Rows.DateFormsUptoSaid :=
  OpenClaim.holds_of_cond 6 Tryd.f6 rfl rfl rfl rfl rfl rfl rfl ⟨rfl, rfl, rfl, rfl, rfl⟩ rfl rfl rfl rfl rfl (by kernel_rfl) Tryd.func6 (by kernel_rfl)
    (of_decide_eq_true (by kernel_rfl)) (by unfold Func.isWrapper; first | (rw [if_pos (by decide +kernel)]; kernel_rfl) | (rw [if_neg (by decide +kernel)]; exact ⟨rfl, rfl⟩))
    (fun os started H enc _ F => by rw [OpenClaim.pre_eq_preRow]; exact liftedUpto os started H enc F)

theorem plain (f : FuncId) (fn : Func) (hf : Tryd.pinned.checked.prog.funcNamed "conduit/conduitlaw02.DateForms" = some f) (hfn : Tryd.pinned.checked.prog.funcs[f]? = some fn) :
    true = Tryd.pinned.checked.prog.looks [] ∧ ∀ (j : Nat) t, fn.params[j]? = some t → Tryd.pinned.checked.prog.wantsStandIn t = false := by
  obtain rfl : f = 6 := Option.some.inj ((show Tryd.prog.funcNamed "conduit/conduitlaw02.DateForms" = some 6 by kernel_rfl).symm.trans hf) |>.symm
  obtain rfl : fn = Tryd.f6 := (Option.some.inj (Tryd.func6.symm.trans hfn)).symm
  refine ⟨by kernel_rfl, fun j t ht => ?_⟩
  rw [Tryd.params6] at ht
  have hm := Array.mem_of_getElem? ht
  simp only [List.mem_toArray, List.mem_cons, List.not_mem_nil, or_false] at hm
  rcases hm with rfl
  · exact (show Tryd.prog.wantsStandIn 3 = false by kernel_rfl)

theorem proved : Rows.DateFormsUptoCardSaid :=
  Claim7.holds_tied_plain_at .later [] _ _ _ _ saidUpto (fun _ h => by cases h) (by kernel_rfl) (fun _ h => by cases h) dateFormsUpto_row_tie rfl ⟨rfl, rfl⟩ (by kernel_rfl) rfl plain (by kernel_rfl)
end Go.Proofs.YtfldfkipkfpdjaaDoor.dateForms
