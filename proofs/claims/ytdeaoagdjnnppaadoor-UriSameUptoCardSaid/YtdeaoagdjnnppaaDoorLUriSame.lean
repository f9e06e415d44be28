/- UriSame: for every input within the second form's bound the law answers true and leaves its arguments as they were. Condition: the bulk of the arguments at most 1048576. -/
import Derived.Test.YtdeaoagdjnnppaaDoorCards
import Derived.Test.YtdeaoagdjnnppaaDoorTie
import Derived.Test.YtdeaoagdjnnppaaDoorUrF
import Derived.Test.YtdeaoagdjnnppaaDoorUrR
import Derived.Test.YtdeaoagdjnnppaaDoorUrT
import Derived.Test.YtdeaoagdjnnppaaDoorBulk
import Derived.WalkKit
import Derived.ProofKit
import Derived.OpenShut
import Derived.JoinedCond
import Derived.Deep.DeepHandedRow
import Derived.Deep.DeepWitnessRowRef
import Derived.Lib.LaidTab
import Derived.Stop.LaidErr
import Derived.Lay
set_option linter.unusedVariables false
set_option linter.unusedSimpArgs false
set_option maxRecDepth 100000
namespace Go.Proofs.YtdeaoagdjnnppaaDoor.uriSame
open Go.ChangeShapes Go.WideShapes Go.ChangeAt Go.RowKit

theorem host_bad {b : UInt8} (h : (!(b == 58) && !Ur.stop b) = false) : b = 58 ∨ b = 47 ∨ b = 63 := by
  unfold Ur.stop at h
  simp at h
  by_cases h1 : b = 58
  · exact .inl h1
  · by_cases h2 : b = 47
    · exact .inr (.inl h2)
    · exact .inr (.inr (h h1 h2))
theorem host_good {b : UInt8} (h : (!(b == 58) && !Ur.stop b) = true) : ¬ b = 58 ∧ ¬ b = 47 ∧ ¬ b = 63 := by
  unfold Ur.stop at h
  simp at h
  exact ⟨h.1, h.2.1, h.2.2⟩
set_option maxRecDepth 100000 in
set_option maxHeartbeats 4000000 in
theorem walk (w : World) (hM : MaxL w) (hE : ErrS w) (h : List UInt8) (hh : h.length ≤ 1048576) (r : List UInt8) (hr : r.length ≤ 1048576) :
    Calls Tryd.prog 6 #[.string (bs h), .string (bs r)] w fun e w' => e = .returned (.bool true) ∧ Below w.heap.size w w' := by
  have hA := alive_any w hM hE
  go_enter Tryd.func6, Tryd.ntmps6
  go_wp2_with fail
  refine hA.mono ?_
  rintro e w1 ⟨rfl, hb1⟩
  clear hA
  have hM1 := maxl_b hM hb1
  have hE1 := errs_b hE hb1
  go_wp2_with fail
  go_loopg [5] h.length (fun q i wr => ∃ k : Nat, k ≤ h.length ∧ q + k = h.length ∧ i = .int .i64 k ∧ Hid ((h.take k).all (fun b => !(b == 58) && !Ur.stop b) = true) ∧ wr = w1)
  case atStart => exact ⟨0, by omega, by omega, rfl, Lib.hid (by simp), rfl⟩
  case round =>
    obtain ⟨k, hk, hq, rfl, HA, rfl⟩ := hrel
    obtain ⟨w1, rfl⟩ : ∃ w1, w1 = wr := ⟨_, rfl⟩
    by_cases hlt : k < h.length
    · cases ho : (!(h[k] == 58) && !Ur.stop h[k]) with
      | true =>
        obtain ⟨g1, g2, g3⟩ := host_good ho
        have e1 := u8nek g1 58 rfl
        have e2 := u8nek g2 47 rfl
        have e3 := u8nek g3 63 rfl
        have HAN : Hid ((h.take (k + 1)).all (fun b => !(b == 58) && !Ur.stop b) = true) := Lib.hid (by rw [all_snoc _ h k hlt, HA.out, ho]; rfl)
        clear ho g1 g2 g3 HA
        go_wp2
        go_roundg (h.length - (k + 1))
        case measure => omega
        case rel => exact ⟨k + 1, by omega, by omega, by go_num, HAN, rfl⟩
      | false =>
        have hb := host_bad ho
        clear ho HA
        by_cases g1 : h[k] = 58
        · have e1 := u8eqk g1 58 rfl
          clear hb g1
          go_wp2
          go_ret
          exact ⟨rfl, hb1⟩
        · have e1 := u8nek g1 58 rfl
          by_cases g2 : h[k] = 47
          · have e2 := u8eqk g2 47 rfl
            clear hb g1 g2
            go_wp2
            go_ret
            exact ⟨rfl, hb1⟩
          · have e2 := u8nek g2 47 rfl
            have g3 : h[k] = 63 := by rcases hb with x | x | x; exact absurd x g1; exact absurd x g2; exact x
            have e3 := u8eqk g3 63 rfl
            clear hb g1 g2 g3
            go_wp2
            go_ret
            exact ⟨rfl, hb1⟩
    · obtain rfl : k = h.length := by omega
      have hall := all_full _ h HA.out
      have hhost : ∀ b ∈ h, Ur.stop b = false ∧ b ≠ 58 := fun b hb => by
        have := List.all_eq_true.1 hall b hb
        simp at this
        exact ⟨this.2, this.1⟩
      clear HA hall
      by_cases h4 : 4000 < h.length + r.length
      · have h4i : (4000 : Int) < (h.length : Int) + (r.length : Int) := by omega
        clear hhost
        go_wp2
        go_ret
        exact ⟨rfl, hb1⟩
      · have h4i : ¬ (4000 : Int) < (h.length : Int) + (r.length : Int) := by omega
        by_cases hbad : r ≠ [] ∧ ∀ c t, r = c :: t → Ur.stop c = false
        · obtain ⟨c, t, rfl⟩ : ∃ c t, r = c :: t := by cases r with
            | nil => exact absurd rfl hbad.1
            | cons c t => exact ⟨c, t, rfl⟩
          have hc := hbad.2 c t rfl
          have n47 : ((c.toNat : Int) != 47) = true := by
            have : ¬ c = 47 := by rintro rfl; cases hc
            rw [bne, u8nek this 47 rfl]; rfl
          have n63 : ((c.toNat : Int) != 63) = true := by
            have : ¬ c = 63 := by rintro rfl; cases hc
            rw [bne, u8nek this 63 rfl]; rfl
          have h4c : (h.length : Int) + ((t.length : Int) + 1) ≤ 4000 := by simp at h4; omega
          clear hbad hc hhost h4i h4
          go_wp2
          go_ret
          exact ⟨rfl, hb1⟩
        · have hrs : r = [] ∨ ∃ c t, r = c :: t ∧ Ur.stop c = true := by
            cases r with
            | nil => exact .inl rfl
            | cons c t =>
              refine .inr ⟨c, t, rfl, ?_⟩
              cases hc : Ur.stop c with
              | true => rfl
              | false => exact absurd ⟨by simp, fun c' t' e => by cases e; exact hc⟩ hbad
          clear hbad
          obtain ⟨hS1, hS2⟩ := Ur.same_all hhost hrs (by omega)
          have hP1 := fun W hm he => parse_any (Ur.sch ++ h ++ r) W hm he (by simp [Ur.sch]; omega)
          have hP2 := fun W hm he => parse_any ([104, 84, 84, 112, 58, 47, 47] ++ fold h ++ [58, 56, 48] ++ r) W hm he (by have := fold_length h; simp; omega)
          have hP3 := fun W hm he => parse_any (Ur.sch ++ h ++ [58] ++ r) W hm he (by simp [Ur.sch]; omega)
          have hF := lower_any h
          have hfl := fold_length h
          rw [← hS1] at hP2
          rw [← hS2] at hP3
          clear hS1 hS2 hhost
          generalize Ur.parseL (Ur.sch ++ h ++ r) = R at *
          obtain ⟨⟨th, tp, tt⟩, te⟩ := R
          unfold resV Ur.tgtV Ur.sch at *
          dsimp only at hP1 hP2 hP3
          generalize fold h = fh at *
          have HP2 := Lib.hid hP2
          have HP3 := Lib.hid hP3
          clear hP2 hP3
          go_upto_region 8 with fail
          go_cut [55] (fun v wx => v = .bool false ∧ wx = w1)
          case first =>
            clear hP1 HP2 HP3 hF
            rcases hrs with rfl | ⟨c, t, rfl, hc⟩
            · have h4c : (h.length : Int) ≤ 4000 := by simp at h4; omega
              clear h4i h4
              go_wp2
              go_meet
              case rel => exact ⟨by first | rfl | exact congrArg Value.bool (decide_eq_false (by omega)), rfl⟩
            · have hcc : c = 47 ∨ c = 63 := by unfold Ur.stop at hc; simpa using hc
              have h4c : (h.length : Int) + ((t.length : Int) + 1) ≤ 4000 := by simp at h4; omega
              clear hc h4i h4
              rcases hcc with rfl | rfl
              · go_wp2
                go_meet
                case rel => exact ⟨by first | rfl | exact congrArg Value.bool (decide_eq_false (by omega)), rfl⟩
              · go_wp2
                go_meet
                case rel => exact ⟨by first | rfl | exact congrArg Value.bool (decide_eq_false (by omega)), rfl⟩
          case rest =>
            obtain ⟨rfl, rfl⟩ := hcut
            obtain ⟨w1, rfl⟩ : ∃ w1, w1 = wc := ⟨_, rfl⟩
            clear hrs
            go_wp2_with fail
            refine (hP1 _ hM1 hE1).mono ?_
            rintro e w2 ⟨rfl, hb2⟩
            have hB2 := bnext hb1 hb2 hb1.size
            have hal3 := alloc_below w2 (.cells #[.string (bs th), .int .i64 tp, .string (bs tt)] 23)
            have ha3 := heap_alloc_new w2 (.cells #[.string (bs th), .int .i64 tp, .string (bs tt)] 23)
            have hB3 := bnext hB2 hal3 hB2.size
            clear hP1 hb2 hB2 hal3
            go_upto_region 11 with fail
            generalize hw3 : w2.alloc (.cells #[.string (bs th), .int .i64 tp, .string (bs tt)] 23) = w3 at *
            clear hw3
            go_wp2_with fail
            refine (hF _ (by omega)).mono ?_
            rintro e w4 ⟨rfl, hb4⟩
            have ha4 := row_keep ha3 hb4
            have hB4 := bnext hB3 hb4 hB3.size
            clear ha3 hB3 hb4 hF
            go_wp2_with fail
            refine (HP2.out _ (maxl_b hM hB4) (errs_b hE hB4)).mono ?_
            rintro e w5 ⟨rfl, hb5⟩
            have ha5 := row_keep ha4 hb5
            have hB5 := bnext hB4 hb5 hB4.size
            have hal6 := alloc_below w5 (.cells #[.string (bs th), .int .i64 tp, .string (bs tt)] 23)
            have hu6 := heap_alloc_new w5 (.cells #[.string (bs th), .int .i64 tp, .string (bs tt)] 23)
            have ha6 := row_keep ha5 hal6
            have hB6 := bnext hB5 hal6 hB5.size
            clear ha4 ha5 hB4 hB5 hb5 hal6 HP2
            go_upto_region 12 with fail
            generalize hw6 : w5.alloc (.cells #[.string (bs th), .int .i64 tp, .string (bs tt)] 23) = w6 at *
            clear hw6
            go_wp2_with fail
            refine (HP3.out _ (maxl_b hM hB6) (errs_b hE hB6)).mono ?_
            rintro e w8 ⟨rfl, hb8⟩
            have ha8 := row_keep ha6 hb8
            have hu8 := row_keep hu6 hb8
            have hB8 := bnext hB6 hb8 hB6.size
            have hal9 := alloc_below w8 (.cells #[.string (bs th), .int .i64 tp, .string (bs tt)] 23)
            obtain ⟨a0, a1, a2, -⟩ := row_facts3 (row_keep ha8 hal9)
            obtain ⟨b0, b1, b2, -⟩ := row_facts3 (row_keep hu8 hal9)
            have hB9 := bnext hB8 hal9 hB8.size
            clear ha6 ha8 hu6 hu8 hB6 hB8 hb8 hal9 HP3
            go_wp2
            go_ret
            exact ⟨rfl, hB9⟩

theorem star : "*" ++ "errors.errorString" = "*errors.errorString" := by decide
theorem err_row (u : TypeId) (h : Tryd.prog.typeName? 3 u = some "*errors.errorString") : u = 123 :=
  typeName_ptr_named (nm := "errors.errorString") (by rw [star]; kernel_rfl) (by kernel_rfl) (by decide) u (by rw [star]; exact h)
theorem err_of {W : World} (h : laidMet Tryd.prog Rows.uriSameUptoRow.laid W) : ErrS W := by
  obtain ⟨a, s, h1, -, -, -⟩ := laid_sentinel (ti := 47) (tp := 123) (te := 125) (ts := 9) (g := 2) (((((h).tail).tail).tail).tail).tail (by kernel_rfl) (by kernel_rfl) Tryd.underlying47 err_row Tryd.underlying123 Tryd.underlying125 rfl rfl Tryd.underlying9 (by kernel_rfl) (by kernel_rfl)
  exact errs_of h1
theorem own : ownKnob Tryd.prog.godebug = none := by kernel_rfl
theorem contract (H : Type) (enc : TypeId × Value → H) (W : World) (base : Nat) (args : Array Value) (ds gs : List (DataW H)) (before : List MemPlace)
    (hval : ∀ (j : Nat) t v, Tryd.f6.params[j]? = some t → args[j]? = some v → Value.okWide Tryd.prog W .any base t v)
    (hW : DataW.Whole enc Tryd.prog Tryd.f6.params.toList Rows.uriSameSpec.vars false W args.toList ds gs before) (hk : Rows.uptoSmall H (ds ++ gs) = true) (hmax : MaxL W) (herr : ErrS W) :
    Calls Tryd.prog 6 args W fun e W' => ∃ v, e = .returned v ∧ Rows.uriSameSpec.post enc Tryd.prog Tryd.f6 false true false false W args v W' := by
  have hW' := hW
  obtain ⟨p, q, hA0, hV, rfl, hfz, hnd⟩ := hW
  have hA : DataW.TrodAll enc Tryd.prog W 0 (fun _ => true) true Tryd.f6.params.toList args.toList ds p := hA0
  rw [Tryd.params6] at hA hval
  obtain ⟨v0, vs0, d0, ds0, p0, q0, hargs, rfl, rfl, h0, r0⟩ := trodAll_cons hA
  obtain ⟨v1, vs1, d1, ds1, p1, q1, rfl, rfl, rfl, h1, r1⟩ := trodAll_cons r0
  obtain ⟨rfl, rfl, rfl⟩ := trodAll_nil r1
  obtain rfl : args = #[v0, v1] := by cases args; simp_all
  obtain ⟨rfl, rfl⟩ := trodVars_none hV
  have hall := bulks.bound hk
  simp only [List.append_nil, Rows.uptoBulkAll] at hall
  have hb0 : Rows.uptoBulk d0 ≤ 1048576 := by omega
  have hb1 : Rows.uptoBulk d1 ≤ 1048576 := by omega
  clear hall
  obtain ⟨s0, rfl, e0⟩ := opS (hval 0 9 v0 rfl rfl) h0
  obtain ⟨s1, rfl, e1⟩ := opS (hval 1 9 v1 rfl rfl) h1
  have hl0 : s0.length ≤ 1048576 := by have := hb0; rw [e0, bulks.string_eq] at this; omega
  have hl1 : s1.length ≤ 1048576 := by have := hb1; rw [e1, bulks.string_eq] at this; omega
  clear hA0
  refine (walk W hmax herr s0 hl0 s1 hl1).mono fun e W' ⟨he, hg⟩ => ?_
  subst he
  exact ⟨_, rfl, post_of_below (pa := p0 ++ (p1 ++ ([]))) (pv := []) hW' (fun _ _ _ => (trodAll_cons_mk (shut_bool Tryd.underlying4 _) trodAll_mk0)) (fun sp hsp => (trodAll_cons_mk (arg_stays laidOut (by kernel_rfl) (of_decide_eq_true (by kernel_rfl)) h0 hg (fun x hx => hW'.lt x (by simp [hx])) sp (fun x hx => hsp x (by simp [hx]))) (trodAll_cons_mk (arg_stays laidOut (by kernel_rfl) (of_decide_eq_true (by kernel_rfl)) h1 hg (fun x hx => hW'.lt x (by simp [hx])) sp (fun x hx => hsp x (by simp [hx]))) trodAll_mk0))) (fun _ _ => rfl) rfl
    hg (ok_one (by kernel_rfl) rfl (okWide_bool_mk Tryd.underlying4 _))⟩

/-- A world for the witness: the listed variables hold what the program lays. -/
noncomputable def laidWorld (os : Os) : World := World.laidAll Tryd.prog os Rows.uriSameUptoRow.laid
set_option maxRecDepth 1000000 in
theorem laid_met (os : Os) : laidMet Tryd.prog Rows.uriSameUptoRow.laid ((laidWorld os).forCall (fun _ _ => 0) ⟨#[], #[.string ⟨#[]⟩, .string ⟨#[]⟩], []⟩).memory :=
  laidMet_laidAll _ (by kernel_rfl) (by kernel_rfl)

theorem reads (os : Os) {H : Type} (enc : TypeId × Value → H) : ∃ places, DataW.whole enc Tryd.prog ((laidWorld os).forCall (fun _ _ => 0) ⟨#[], #[.string ⟨#[]⟩, .string ⟨#[]⟩], []⟩).memory Tryd.f6.params.toList Rows.uriSameSpec.vars false #[.string ⟨#[]⟩, .string ⟨#[]⟩].toList 8 = some ([.lit (.string []), .lit (.string [])], [], places) :=
  ⟨[], by kernel_rfl⟩

set_option maxRecDepth 100000 in
theorem liftedUpto (os : Os) (started : os.Started) (H : Type) (enc : TypeId × Value → H) (F : Stop.Interp) :
    ReturnsInHanded {} Tryd.checked os 6 .any ((Rows.OpenSpec.upto Rows.uriSameSpec).preRow enc Tryd.prog Tryd.f6 Rows.uriSameUptoRow.domain false Rows.uriSameUptoRow.laid) (((Rows.OpenSpec.upto Rows.uriSameSpec).at F).post enc Tryd.prog Tryd.f6 false true false false) := by
  obtain ⟨places, hx⟩ := reads os enc
  refine returnsInHanded_of_row (C := Tryd.checked) (s := Rows.OpenSpec.upto Rows.uriSameSpec) own started (by kernel_rfl) Tryd.func6
    (witness_row_atRef (enc := enc) (C := Tryd.checked) false (laidWorld os) #[.string ⟨#[]⟩, .string ⟨#[]⟩] (World.laidAll_os _ _ _) (by kernel_rfl) (by kernel_rfl) (by kernel_rfl)
      (OpenSpec.preRow_of_cond 8 hx (by kernel_rfl) (fun k hk => by cases hk; kernel_rfl) (by kernel_rfl) (laid_met os))) ?_
  intro W base args ds gs before hval hW g1 hcond g2 g3 g4 g5
  exact contract H enc W base args ds gs before hval hW (hcond _ rfl) (by first | exact maxl_of g4 | exact maxl_of g3 | exact maxl_of g2 | exact maxl_of g5 | exact maxl_of g1) (by first | exact err_of g3 | exact err_of g2 | exact err_of g4 | exact err_of g5 | exact err_of g1)

theorem saidUpto : Rows.UriSameUptoSaid :=
  OpenClaim.holds_of_cond 6 Tryd.f6 rfl rfl rfl rfl rfl rfl rfl ⟨rfl, rfl, rfl, rfl, rfl⟩ rfl rfl rfl rfl rfl (by kernel_rfl) Tryd.func6 (by kernel_rfl)
    (of_decide_eq_true (by kernel_rfl)) (by unfold Func.isWrapper; first | (rw [if_pos (by decide +kernel)]; kernel_rfl) | (rw [if_neg (by decide +kernel)]; exact ⟨rfl, rfl⟩))
    (fun os started H enc _ F => by rw [OpenClaim.pre_eq_preRow]; exact liftedUpto os started H enc F)

theorem plain (f : FuncId) (fn : Func) (hf : Tryd.pinned.checked.prog.funcNamed "conduit/conduitlaw03.UriSame" = some f) (hfn : Tryd.pinned.checked.prog.funcs[f]? = some fn) :
    true = Tryd.pinned.checked.prog.looks [] ∧ ∀ (j : Nat) t, fn.params[j]? = some t → Tryd.pinned.checked.prog.wantsStandIn t = false := by
  obtain rfl : f = 6 := Option.some.inj ((show Tryd.prog.funcNamed "conduit/conduitlaw03.UriSame" = some 6 by kernel_rfl).symm.trans hf) |>.symm
  obtain rfl : fn = Tryd.f6 := (Option.some.inj (Tryd.func6.symm.trans hfn)).symm
  refine ⟨by kernel_rfl, fun j t ht => ?_⟩
  rw [Tryd.params6] at ht
  have hm := Array.mem_of_getElem? ht
  simp only [List.mem_toArray, List.mem_cons, List.not_mem_nil, or_false] at hm
  rcases hm with rfl | rfl
  · exact (show Tryd.prog.wantsStandIn 9 = false by kernel_rfl)
  · exact (show Tryd.prog.wantsStandIn 9 = false by kernel_rfl)

theorem proved : Rows.UriSameUptoCardSaid :=
  Claim7.holds_tied_plain_at .later [] _ _ _ _ saidUpto (fun _ h => by cases h) (by kernel_rfl) (fun _ h => by cases h) uriSameUpto_row_tie rfl ⟨rfl, rfl⟩ (by kernel_rfl) rfl plain (by kernel_rfl)
end Go.Proofs.YtdeaoagdjnnppaaDoor.uriSame
