/- UriRound: for every input within the second form's bound the law answers true and leaves its arguments as they were. Condition: the bulk of the arguments at most 1048576. -/
import Derived.Test.YtdeaoagdjnnppaaGreatDoorCards
import Derived.Test.YtdeaoagdjnnppaaGreatDoorTie
import Derived.Test.YtdeaoagdjnnppaaGreatDoorUrF
import Derived.Test.YtdeaoagdjnnppaaGreatDoorOpenS
import Derived.Test.YtdeaoagdjnnppaaGreatDoorBulk
import Derived.WalkKit
import Derived.ProofKit
import Derived.OpenShut
import Derived.JoinedCond
import Derived.Deep.DeepHandedRow
import Derived.Deep.DeepWitnessRowRef
import Derived.Lib.LaidTab
import Derived.Stop.LaidErr
import Derived.Lay
set_option linter.unusedVariables false
set_option linter.unusedSimpArgs false
set_option maxRecDepth 100000
namespace Go.Proofs.YtdeaoagdjnnppaaGreatDoor.uriRound
open Go.ChangeShapes Go.WideShapes Go.ChangeAt Go.RowKit

theorem parse_len {s : List UInt8} {t : Ur.Tgt} (hp : Ur.parseL s = (t, 0)) : t.1.length ≤ 4096 ∧ t.2.2.length ≤ 10000 := by
  have hg := Ur.parse_good hp
  refine ⟨Nat.le_trans (Ur.hostB_all hg.host).2.2 (by decide), ?_⟩
  unfold Ur.parseL at hp
  split at hp
  · cases hp
  rename_i h4
  split at hp
  · cases hp
  split at hp
  · cases hp
  obtain ⟨h1, h2, r, h3, rfl⟩ := Ur.behind_ok hp
  have h5 := dec_len _ h3
  have h6 : (Ur.restS (s.drop 7)).length ≤ s.length := Nat.le_trans (List.dropWhile_sublist _).length_le (by simp)
  have h7 := tidy_len (Ur.cutA 63 r)
  have h8 := Ur.cutA_le 63 r
  have h9 := Ur.cutR_le 63 r
  simp only [List.length_append]
  omega
theorem round_long {n : List UInt8} (h : 4096 < n.length) : Ur.parseL n = (Ur.noT, 101) := by unfold Ur.parseL; rw [if_pos h]
set_option maxHeartbeats 4000000 in
theorem walk (w : World) (ht : Tab w) (hM : MaxL w) (hE : ErrS w) (s : List UInt8) (hs : s.length ≤ 1048576) :
    Calls Tryz.prog 4 #[.string (bs s)] w fun e w' => e = .returned (.bool true) ∧ Below w.heap.size w w' := by
  have hA := alive_any w hM hE
  have hP := fun W hm he => parse_any s W hm he (by omega)
  have hG := fun t h => Ur.parse_good (s := s) (t := t) h
  have hLn := fun t h => parse_len (s := s) (t := t) h
  have hNo := fun h => Ur.parse_err (s := s) h
  generalize Ur.parseL s = R at *
  obtain ⟨⟨th, tp, tt⟩, te⟩ := R
  by_cases hte : te = 0
  · subst hte
    have hg := hG _ rfl
    have hl := hLn _ rfl
    have hR1 := Ur.round hg
    have hR2 := Ur.round_auth hg
    have p1 := hg.p1
    have p2 := hg.p2
    dsimp only at p1 p2 hl hR2
    have hS := fun W hT => ushow_any th tt tp W hT (by omega) (by omega) (by omega) (by omega)
    have hO := fun W hT => uorig_any th tt tp W hT (by omega) (by omega) (by omega) (by omega)
    have hnl : (Ur.showL (th, tp, tt)).length ≤ 20000 := by
      have := itoa_len (p := tp) (by omega) (by omega)
      unfold Ur.showL Ur.sch
      split <;> simp <;> omega
    have hol : (Ur.origL (th, tp, tt)).length ≤ 20000 := by
      have := itoa_len (p := tp) (by omega) (by omega)
      unfold Ur.origL
      simp; omega
    have hAu := fun W hm => auth_any (Ur.origL (th, tp, tt)) W hm (by omega)
    have hP2 := fun W hm he => parse_any (Ur.showL (th, tp, tt)) W hm he (by omega)
    have hLong := fun h => round_long (n := Ur.showL (th, tp, tt)) h
    rw [hR2] at hAu
    clear hG hLn hNo hg hR2 hol
    generalize Ur.showL (th, tp, tt) = n at *
    generalize Ur.origL (th, tp, tt) = o at *
    have H1 := Lib.hid hR1
    have H2 := Lib.hid hLong
    clear hR1 hLong
    generalize Ur.parseL n = R2 at *
    obtain ⟨⟨uh, up, ut⟩, ue⟩ := R2
    unfold resV Ur.tgtV at *
    dsimp only at hP hP2 hAu
    go_enter Tryz.func4, Tryz.ntmps4
    go_wp2_with fail
    refine hA.mono ?_
    rintro e w1 ⟨rfl, hb1⟩
    go_wp2_with fail
    refine (hP _ (maxl_b hM hb1) (errs_b hE hb1)).mono ?_
    rintro e w2 ⟨rfl, hb2⟩
    have hB2 := bnext hb1 hb2 hb1.size
    have hal3 := alloc_below w2 (.cells #[.string (bs th), .int .i64 tp, .string (bs tt)] 24)
    have ha3 := heap_alloc_new w2 (.cells #[.string (bs th), .int .i64 tp, .string (bs tt)] 24)
    have hB3 := bnext hB2 hal3 hB2.size
    clear hA hP hb1 hb2 hB2 hal3
    go_upto_region 4 with fail
    generalize hw3 : w2.alloc (.cells #[.string (bs th), .int .i64 tp, .string (bs tt)] 24) = w3 at *
    clear hw3
    obtain ⟨a0, a1, a2, -⟩ := row_facts3 ha3
    go_wp2_with fail
    refine (hS _ (tab_b ht hB3)).mono ?_
    rintro e w4 ⟨rfl, hb4⟩
    have ha4 := row_keep ha3 hb4
    have hB4 := bnext hB3 hb4 hB3.size
    clear a0 a1 a2 ha3 hB3 hb4
    go_wp2_with fail
    refine (hP2 _ (maxl_b hM hB4) (errs_b hE hB4)).mono ?_
    rintro e w5 ⟨rfl, hb5⟩
    have ha5 := row_keep ha4 hb5
    have hB5 := bnext hB4 hb5 hB4.size
    have hal6 := alloc_below w5 (.cells #[.string (bs uh), .int .i64 up, .string (bs ut)] 24)
    have hu6 := heap_alloc_new w5 (.cells #[.string (bs uh), .int .i64 up, .string (bs ut)] 24)
    have ha6 := row_keep ha5 hal6
    have hB6 := bnext hB5 hal6 hB5.size
    clear ha4 ha5 hB4 hB5 hb5 hal6 hP2
    go_upto_region 8 with fail
    generalize hw6 : w5.alloc (.cells #[.string (bs uh), .int .i64 up, .string (bs ut)] 24) = w6 at *
    clear hw6
    obtain ⟨a0, a1, a2, -⟩ := row_facts3 ha6
    go_wp2_with fail
    refine (hO _ (tab_b ht hB6)).mono ?_
    rintro e w7 ⟨rfl, hb7⟩
    have ha7 := row_keep ha6 hb7
    have hu7 := row_keep hu6 hb7
    have hB7 := bnext hB6 hb7 hB6.size
    clear a0 a1 a2 ha6 hu6 hB6 hb7 hO
    go_wp2_with fail
    refine (hAu _ (maxl_b hM hB7)).mono ?_
    rintro e w8 ⟨rfl, hb8⟩
    have ha8 := row_keep ha7 hb8
    have hu8 := row_keep hu7 hb8
    have hB8 := bnext hB7 hb8 hB7.size
    have hal9 := alloc_below w8 (.cells #[.string (bs th), .int .i64 tp, .string (bs [])] 24)
    have hv9 := heap_alloc_new w8 (.cells #[.string (bs th), .int .i64 tp, .string (bs [])] 24)
    have ha9 := row_keep ha8 hal9
    have hu9 := row_keep hu8 hal9
    have hB9 := bnext hB8 hal9 hB8.size
    clear ha7 ha8 hu7 hu8 hB7 hB8 hb8 hal9 hAu
    go_upto_region 9 with fail
    generalize hw9 : w8.alloc (.cells #[.string (bs th), .int .i64 tp, .string (bs [])] 24) = w9 at *
    clear hw9
    by_cases h4 : 4096 < n.length
    · have h2 := H2.out h4
      cases h2
      clear H1 H2
      have h4i : (4096 : Int) < (n.length : Int) := by omega
      go_wp2
      go_ret
      exact ⟨rfl, hB9⟩
    · have h2 := H1.out (by omega)
      cases h2
      clear H1 H2
      have h4i : ¬ (4096 : Int) < (n.length : Int) := by omega
      obtain ⟨a0, a1, a2, -⟩ := row_facts3 ha9
      obtain ⟨b0, b1, b2, -⟩ := row_facts3 hu9
      obtain ⟨c0, c1, c2, -⟩ := row_facts3 hv9
      have hSS := hS _ (tab_b ht hB9)
      go_wp2_with fail
      refine hSS.mono ?_
      rintro e w10 ⟨rfl, hb10⟩
      clear a0 a1 a2 b0 b1 b2 c0 c1 c2
      obtain ⟨a0, a1, a2, -⟩ := row_facts3 (row_keep ha9 hb10)
      obtain ⟨b0, b1, b2, -⟩ := row_facts3 (row_keep hu9 hb10)
      obtain ⟨c0, c1, c2, -⟩ := row_facts3 (row_keep hv9 hb10)
      go_wp2
      go_ret
      exact ⟨rfl, bnext hB9 hb10 hB9.size⟩
  · have h0 := hNo hte
    cases h0
    have htn : (te != 0) = true := by simpa using hte
    clear hG hLn hNo hte
    unfold resV Ur.tgtV at hP
    dsimp only at hP
    go_enter Tryz.func4, Tryz.ntmps4
    go_wp2_with fail
    refine hA.mono ?_
    rintro e w1 ⟨rfl, hb1⟩
    go_wp2_with fail
    refine (hP _ (maxl_b hM hb1) (errs_b hE hb1)).mono ?_
    rintro e w2 ⟨rfl, hb2⟩
    have hB2 := bnext hb1 hb2 hb1.size
    have hal3 := alloc_below w2 (.cells #[.string (bs []), .int .i64 0, .string (bs [])] 24)
    have hB3 := bnext hB2 hal3 hB2.size
    have hal4 := alloc_below w2 (.cells #[.string ⟨#[]⟩, .int .i64 0, .string ⟨#[]⟩] 24)
    have hB4 := bnext hB2 hal4 hB2.size
    go_wp2
    go_ret
    exact ⟨rfl, by first | exact hB3 | exact hB4⟩

theorem tab_of {W : World} (h : laidMet Tryz.prog Rows.uriRoundUptoRow.laid W) : Tab W :=
  Lib.tabIs_of_head (t := 115) (e := 59) (n := 20) (g := 4) (by kernel_rfl) (by kernel_rfl) (by kernel_rfl) (by kernel_rfl) (by kernel_rfl) (by kernel_rfl) ((h).tail).tail
theorem star : "*" ++ "errors.errorString" = "*errors.errorString" := by decide
theorem err_row (u : TypeId) (h : Tryz.prog.typeName? 3 u = some "*errors.errorString") : u = 122 :=
  typeName_ptr_named (nm := "errors.errorString") (by rw [star]; kernel_rfl) (by kernel_rfl) (by decide) u (by rw [star]; exact h)
theorem err_of {W : World} (h : laidMet Tryz.prog Rows.uriRoundUptoRow.laid W) : ErrS W := by
  obtain ⟨a, s, h1, -, -, -⟩ := laid_sentinel (ti := 52) (tp := 122) (te := 124) (ts := 9) (g := 1) (((((h).tail).tail).tail).tail).tail (by kernel_rfl) (by kernel_rfl) Tryz.underlying52 err_row Tryz.underlying122 Tryz.underlying124 rfl rfl Tryz.underlying9 (by kernel_rfl) (by kernel_rfl)
  exact errs_of h1
theorem own : ownKnob Tryz.prog.godebug = none := by kernel_rfl
theorem contract (H : Type) (enc : TypeId × Value → H) (W : World) (base : Nat) (args : Array Value) (ds gs : List (DataW H)) (before : List MemPlace)
    (hval : ∀ (j : Nat) t v, Tryz.f4.params[j]? = some t → args[j]? = some v → Value.okWide Tryz.prog W .any base t v)
    (hW : DataW.Whole enc Tryz.prog Tryz.f4.params.toList Rows.uriRoundSpec.vars false W args.toList ds gs before) (hk : Rows.uptoSmall H (ds ++ gs) = true) (htab : Tab W) (hmax : MaxL W) (herr : ErrS W) :
    Calls Tryz.prog 4 args W fun e W' => ∃ v, e = .returned v ∧ Rows.uriRoundSpec.post enc Tryz.prog Tryz.f4 false true false false W args v W' := by
  have hW' := hW
  obtain ⟨p, q, hA0, hV, rfl, hfz, hnd⟩ := hW
  have hA : DataW.TrodAll enc Tryz.prog W 0 (fun _ => true) true Tryz.f4.params.toList args.toList ds p := hA0
  rw [Tryz.params4] at hA hval
  obtain ⟨v0, vs0, d0, ds0, p0, q0, hargs, rfl, rfl, h0, r0⟩ := trodAll_cons hA
  obtain ⟨rfl, rfl, rfl⟩ := trodAll_nil r0
  obtain rfl : args = #[v0] := by cases args; simp_all
  obtain ⟨rfl, rfl⟩ := trodVars_none hV
  have hall := bulks.bound hk
  simp only [List.append_nil, Rows.uptoBulkAll] at hall
  have hb0 : Rows.uptoBulk d0 ≤ 1048576 := by omega
  clear hall
  obtain ⟨s0, rfl, e0⟩ := opS (hval 0 9 v0 rfl rfl) h0
  have hl0 : s0.length ≤ 1048576 := by have := hb0; rw [e0, bulks.string_eq] at this; omega
  clear hA0
  refine (walk W htab hmax herr s0 hl0).mono fun e W' ⟨he, hg⟩ => ?_
  subst he
  exact ⟨_, rfl, post_of_below (pa := p0 ++ ([])) (pv := []) hW' (fun _ _ _ => (trodAll_cons_mk (shut_bool Tryz.underlying4 _) trodAll_mk0)) (fun sp hsp => (trodAll_cons_mk (arg_stays laidOut (by kernel_rfl) (of_decide_eq_true (by kernel_rfl)) h0 hg (fun x hx => hW'.lt x (by simp [hx])) sp (fun x hx => hsp x (by simp [hx]))) trodAll_mk0)) (fun _ _ => rfl) rfl
    hg (ok_one (by kernel_rfl) rfl (okWide_bool_mk Tryz.underlying4 _))⟩

/-- A world for the witness: the listed variables hold what the program lays. -/
noncomputable def laidWorld (os : Os) : World := World.laidAll Tryz.prog os Rows.uriRoundUptoRow.laid
set_option maxRecDepth 1000000 in
theorem laid_met (os : Os) : laidMet Tryz.prog Rows.uriRoundUptoRow.laid ((laidWorld os).forCall (fun _ _ => 0) ⟨#[], #[.string ⟨#[]⟩], []⟩).memory :=
  laidMet_laidAll _ (by kernel_rfl) (by kernel_rfl)

theorem reads (os : Os) {H : Type} (enc : TypeId × Value → H) : ∃ places, DataW.whole enc Tryz.prog ((laidWorld os).forCall (fun _ _ => 0) ⟨#[], #[.string ⟨#[]⟩], []⟩).memory Tryz.f4.params.toList Rows.uriRoundSpec.vars false #[.string ⟨#[]⟩].toList 8 = some ([.lit (.string [])], [], places) :=
  ⟨[], by kernel_rfl⟩

set_option maxRecDepth 100000 in
theorem liftedUpto (os : Os) (started : os.Started) (H : Type) (enc : TypeId × Value → H) (F : Stop.Interp) :
    ReturnsInHanded {} Tryz.checked os 4 .any ((Rows.OpenSpec.upto Rows.uriRoundSpec).preRow enc Tryz.prog Tryz.f4 Rows.uriRoundUptoRow.domain false Rows.uriRoundUptoRow.laid) (((Rows.OpenSpec.upto Rows.uriRoundSpec).at F).post enc Tryz.prog Tryz.f4 false true false false) := by
  obtain ⟨places, hx⟩ := reads os enc
  refine returnsInHanded_of_row (C := Tryz.checked) (s := Rows.OpenSpec.upto Rows.uriRoundSpec) own started (by kernel_rfl) Tryz.func4
    (witness_row_atRef (enc := enc) (C := Tryz.checked) false (laidWorld os) #[.string ⟨#[]⟩] (World.laidAll_os _ _ _) (by kernel_rfl) (by kernel_rfl) (by kernel_rfl)
      (OpenSpec.preRow_of_cond 8 hx (by kernel_rfl) (fun k hk => by cases hk; kernel_rfl) (by kernel_rfl) (laid_met os))) ?_
  intro W base args ds gs before hval hW g1 hcond g2 g3 g4 g5
  exact contract H enc W base args ds gs before hval hW (hcond _ rfl) (by first | exact tab_of g2 | exact tab_of g3 | exact tab_of g4 | exact tab_of g5 | exact tab_of g1) (by first | exact maxl_of g4 | exact maxl_of g3 | exact maxl_of g2 | exact maxl_of g5 | exact maxl_of g1) (by first | exact err_of g3 | exact err_of g2 | exact err_of g4 | exact err_of g5 | exact err_of g1)

theorem saidUpto : Rows.UriRoundUptoSaid :=
  OpenClaim.holds_of_cond 4 Tryz.f4 rfl rfl rfl rfl rfl rfl rfl ⟨rfl, rfl, rfl, rfl, rfl⟩ rfl rfl rfl rfl rfl (by kernel_rfl) Tryz.func4 (by kernel_rfl)
    (of_decide_eq_true (by kernel_rfl)) (by unfold Func.isWrapper; first | (rw [if_pos (by decide +kernel)]; kernel_rfl) | (rw [if_neg (by decide +kernel)]; exact ⟨rfl, rfl⟩))
    (fun os started H enc _ F => by rw [OpenClaim.pre_eq_preRow]; exact liftedUpto os started H enc F)

theorem plain (f : FuncId) (fn : Func) (hf : Tryz.pinned.checked.prog.funcNamed "conduit/conduitlaw03.UriRound" = some f) (hfn : Tryz.pinned.checked.prog.funcs[f]? = some fn) :
    true = Tryz.pinned.checked.prog.looks [] ∧ ∀ (j : Nat) t, fn.params[j]? = some t → Tryz.pinned.checked.prog.wantsStandIn t = false := by
  obtain rfl : f = 4 := Option.some.inj ((show Tryz.prog.funcNamed "conduit/conduitlaw03.UriRound" = some 4 by kernel_rfl).symm.trans hf) |>.symm
  obtain rfl : fn = Tryz.f4 := (Option.some.inj (Tryz.func4.symm.trans hfn)).symm
  refine ⟨by kernel_rfl, fun j t ht => ?_⟩
  rw [Tryz.params4] at ht
  have hm := Array.mem_of_getElem? ht
  simp only [List.mem_toArray, List.mem_cons, List.not_mem_nil, or_false] at hm
  rcases hm with rfl
  · exact (show Tryz.prog.wantsStandIn 9 = false by kernel_rfl)

theorem proved : Rows.UriRoundUptoCardSaid :=
  Claim7.holds_tied_plain_at .later [] _ _ _ _ saidUpto (fun _ h => by cases h) (by kernel_rfl) (fun _ h => by cases h) uriRoundUpto_row_tie rfl ⟨rfl, rfl⟩ (by kernel_rfl) rfl plain (by kernel_rfl)
end Go.Proofs.YtdeaoagdjnnppaaGreatDoor.uriRound
