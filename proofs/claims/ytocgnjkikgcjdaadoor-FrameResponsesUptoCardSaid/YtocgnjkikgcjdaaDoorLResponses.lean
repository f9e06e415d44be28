/- FrameResponses: for every input within the second form's bound the law answers true and leaves its arguments as they were. Condition: the bulk of the arguments at most 1048576. -/
import Derived.Test.YtocgnjkikgcjdaaDoorCards
import Derived.Test.YtocgnjkikgcjdaaDoorTie
import Derived.Test.YtocgnjkikgcjdaaDoorFrmP
import Derived.Test.YtocgnjkikgcjdaaDoorOpenR
import Derived.Test.YtocgnjkikgcjdaaDoorOpen
import Derived.Test.YtocgnjkikgcjdaaDoorBulk
import Derived.WalkKit
import Derived.ProofKit
import Derived.OpenShut
import Derived.JoinedCond
import Derived.Deep.DeepHandedRow
import Derived.Deep.DeepWitnessRowRef
import Derived.Lib.LaidTab
set_option linter.unusedVariables false
set_option linter.unusedSimpArgs false
set_option maxRecDepth 100000
namespace Go.Proofs.YtocgnjkikgcjdaaDoor.frameResponses
open Go.ChangeShapes Go.WideShapes Go.ChangeAt Go.RowKit

set_option maxHeartbeats 1000000 in
theorem walk (w : World) (st : Int) (hst1 : -9223372036854775808 ≤ st) (hst2 : st ≤ 9223372036854775807) (rs : List UInt8) (minor : Int) (A : Option Addr) (n c : Nat) (l : List Fld) (hA : RdF w A n l) (hn : n + 3 ≤ 1048576) (hf : ∀ f ∈ l, f.1.length ≤ 1048576 ∧ f.2.length ≤ 1048576) (hnc : n ≤ c) (hcm : c ≤ maxLen) (m : List UInt8) (hm : m.length ≤ 1048576) :
    Calls Tryd.prog 7 #[respV st rs minor A n c, .string (bs m)] w fun e w' => e = .returned (.bool true) ∧ Below w.heap.size w w' := by
  unfold respV
  replace hn : n ≤ 1048576 := by omega
  have hal := alloc_below w (.cells #[.int .i64 st, .string (bs rs), .int .i64 minor, .slice A n c] 46)
  have hr0 := heap_alloc_new w (.cells #[.int .i64 st, .string (bs rs), .int .i64 minor, .slice A n c] 46)
  have hl0 := hA.step hal
  have hlen := hA.1
  clear hA
  go_enter Tryd.func7, Tryd.ntmps7
  go_wp2_with fail
  refine (alive_any _).mono ?_
  rintro e w1 ⟨rfl, hb1⟩
  have hr1 := row_keep hr0 hb1
  have hl1 := hl0.step hb1
  have hbA := bnext hal hb1 hal.size
  clear hal hr0 hl0 hb1
  obtain ⟨a0, a1, a2, a3, -⟩ := row_facts4 hr1
  go_wp2_with fail
  refine (copyResponse_any st rs minor A n c l w1 hl1 hn).mono ?_
  rintro e w2 ⟨A', n', c', rfl, hl2', hb2⟩
  unfold respV
  have hn' : n' ≤ 1048576 := by have := hl2'.1; omega
  have hr2 := row_keep hr1 hb2
  have hl2 := hl1.step hb2
  have hbB := bnext hbA hb2 hbA.size
  have hal := alloc_below w2 (.cells #[.int .i64 st, .string (bs rs), .int .i64 minor, .slice A' n' c'] 46)
  have hs3 := heap_alloc_new w2 (.cells #[.int .i64 st, .string (bs rs), .int .i64 minor, .slice A' n' c'] 46)
  have hr3 := row_keep hr2 hal
  have hl3 := hl2.step hal
  have hl3' := hl2'.step hal
  have hbC := bnext hbB hal hbB.size
  have hO := ofResponse_any st rs minor A' n' c' l m _ hst1 hst2 hl3' hn' hf
  obtain ⟨b0, b1, b2, b3, -⟩ := row_facts4 hs3
  clear hr1 hl1 hbA hb2 hr2 hl2 hl2' hbB hal a0 a1 a2 a3
  unfold respO at hO
  generalize hQ : respL st m minor l = q at *
  have HQ := Lib.hid hQ
  clear hQ
  obtain ⟨x, y, z⟩ := q
  unfold bodyV respV at hO
  dsimp only at hO
  go_wp2_with fail
  refine hO.mono ?_
  rintro e w4 ⟨rfl, hb4⟩
  have hr4 := row_keep hr3 hb4
  have hs4 := row_keep hs3 hb4
  have hl4 := hl3.step hb4
  have hl4' := hl3'.step hb4
  have hbD := bnext hbC hb4 hbC.size
  have hal := alloc_below w4 (.cells #[.int .i64 x, .int .i64 y] 31)
  have hu5 := heap_alloc_new w4 (.cells #[.int .i64 x, .int .i64 y] 31)
  have hr5 := row_keep hr4 hal
  have hs5 := row_keep hs4 hal
  have hl5 := hl4.step hal
  have hl5' := hl4'.step hal
  have hbE := bnext hbD hal hbD.size
  have hO2 := ofResponseR_any st rs minor A n c l m _ hl5 hn hf
  unfold respO at hO2
  rw [HQ.out] at hO2
  obtain ⟨a0, a1, a2, a3, -⟩ := row_facts4 hr5
  unfold bodyV respV at hO2
  dsimp only at hO2
  clear hr3 hs3 hl3 hl3' hbC hb4 hr4 hs4 hl4 hl4' hbD hal hO b0 b1 b2 b3
  go_wp2_with fail
  refine hO2.mono ?_
  rintro e w6 ⟨rfl, hb6⟩
  have hr6 := row_keep hr5 hb6
  have hs6 := row_keep hs5 hb6
  have hu6 := row_keep hu5 hb6
  have hl6 := hl5.step hb6
  have hl6' := hl5'.step hb6
  have hbF := bnext hbE hb6 hbE.size
  have hal := alloc_below w6 (.cells #[.int .i64 x, .int .i64 y] 31)
  have hv7 := heap_alloc_new w6 (.cells #[.int .i64 x, .int .i64 y] 31)
  have hr7 := row_keep hr6 hal
  have hs7 := row_keep hs6 hal
  have hu7 := row_keep hu6 hal
  have hl7 := hl6.step hal
  have hl7' := hl6'.step hal
  have hbG := bnext hbF hal hbF.size
  obtain ⟨b0, b1, b2, b3, -⟩ := row_facts4 hs7
  obtain ⟨d0, d1, -, -⟩ := res_facts hu7
  obtain ⟨e0, e1, -, -⟩ := res_facts hv7
  have hS := sameResponse_any st rs minor A' A n' c' n c l _ hl7' hl7 hn' hn
  unfold respV at hS
  have hq := eql_body x y x y
  have hg := eqg_body
  clear hr5 hs5 hu5 hl5 hl5' hbE hb6 hr6 hs6 hu6 hl6 hl6' hbF hal hO2 a0 a1 a2 a3
  obtain ⟨a0, a1, a2, a3, -⟩ := row_facts4 hr7
  go_wp2_with fail
  refine hS.mono ?_
  rintro e w8 ⟨rfl, hb8⟩
  go_wp2
  go_ret
  exact ⟨rfl, bnext hbG hb8 hbG.size⟩

theorem own : ownKnob Tryd.prog.godebug = none := by kernel_rfl
theorem contract (H : Type) (enc : TypeId × Value → H) (W : World) (base : Nat) (args : Array Value) (ds gs : List (DataW H)) (before : List MemPlace)
    (hval : ∀ (j : Nat) t v, Tryd.f7.params[j]? = some t → args[j]? = some v → Value.okWide Tryd.prog W .any base t v)
    (hW : DataW.Whole enc Tryd.prog Tryd.f7.params.toList Rows.frameResponsesSpec.vars false W args.toList ds gs before) (hk : Rows.uptoSmall H (ds ++ gs) = true) :
    Calls Tryd.prog 7 args W fun e W' => ∃ v, e = .returned v ∧ Rows.frameResponsesSpec.post enc Tryd.prog Tryd.f7 false true false false W args v W' := by
  have hW' := hW
  obtain ⟨p, q, hA0, hV, rfl, hfz, hnd⟩ := hW
  have hA : DataW.TrodAll enc Tryd.prog W 0 (fun _ => true) true Tryd.f7.params.toList args.toList ds p := hA0
  rw [Tryd.params7] at hA hval
  obtain ⟨v0, vs0, d0, ds0, p0, q0, hargs, rfl, rfl, h0, r0⟩ := trodAll_cons hA
  obtain ⟨v1, vs1, d1, ds1, p1, q1, rfl, rfl, rfl, h1, r1⟩ := trodAll_cons r0
  obtain ⟨rfl, rfl, rfl⟩ := trodAll_nil r1
  obtain rfl : args = #[v0, v1] := by cases args; simp_all
  obtain ⟨rfl, rfl⟩ := trodVars_none hV
  have hall := bulks.bound hk
  simp only [List.append_nil, Rows.uptoBulkAll] at hall
  have hb0 : Rows.uptoBulk d0 ≤ 1048576 := by omega
  have hb1 : Rows.uptoBulk d1 ≤ 1048576 := by omega
  clear hall
  obtain ⟨st0, rs0, x0, A0, n0, c0, l0, rfl, hr0, hn0, hf0, hc0, hd0, hs0, ht0⟩ := opResp (hval 0 46 v0 rfl rfl) h0 hb0
  obtain ⟨s1, rfl, e1⟩ := opS (hval 1 9 v1 rfl rfl) h1
  have hl1 : s1.length ≤ 1048576 := by have := hb1; rw [e1, bulks.string_eq] at this; omega
  clear hA0
  refine (walk W st0 hs0 ht0 rs0 x0 A0 n0 c0 l0 hr0 hn0 hf0 hc0 hd0 s1 hl1).mono fun e W' ⟨he, hg⟩ => ?_
  subst he
  exact ⟨_, rfl, post_of_below (pa := p0 ++ (p1 ++ ([]))) (pv := []) hW' (fun _ _ _ => (trodAll_cons_mk (shut_bool Tryd.underlying4 _) trodAll_mk0)) (fun sp hsp => (trodAll_cons_mk (arg_stays laidOut (by kernel_rfl) (of_decide_eq_true (by kernel_rfl)) h0 hg (fun x hx => hW'.lt x (by simp [hx])) sp (fun x hx => hsp x (by simp [hx]))) (trodAll_cons_mk (arg_stays laidOut (by kernel_rfl) (of_decide_eq_true (by kernel_rfl)) h1 hg (fun x hx => hW'.lt x (by simp [hx])) sp (fun x hx => hsp x (by simp [hx]))) trodAll_mk0))) (fun _ _ => rfl) rfl
    hg (ok_one (by kernel_rfl) rfl (okWide_bool_mk Tryd.underlying4 _))⟩

/-- A world for the witness: the settled one, the listed variables holding what the program lays. -/
noncomputable def laidWorld (os : Os) : World :=
  { (World.holding Tryd.prog os ⟨#[.cells #[.string ⟨#[118, 97, 108, 117, 101, 32, 111, 117, 116, 32, 111, 102, 32, 114, 97, 110, 103, 101]⟩] 119, .cells #[.string ⟨#[105, 110, 118, 97, 108, 105, 100, 32, 115, 121, 110, 116, 97, 120]⟩] 119], #[], []⟩) with heap := ((((((((World.holding Tryd.prog os ⟨#[.cells #[.string ⟨#[118, 97, 108, 117, 101, 32, 111, 117, 116, 32, 111, 102, 32, 114, 97, 110, 103, 101]⟩] 119, .cells #[.string ⟨#[105, 110, 118, 97, 108, 105, 100, 32, 115, 121, 110, 116, 97, 120]⟩] 119], #[], []⟩).heap.modify 6 fun
      | .cells _ t frozen => .cells #[.int .u8 0, .int .u8 1, .int .u8 28, .int .u8 2, .int .u8 29, .int .u8 14, .int .u8 24, .int .u8 3, .int .u8 30, .int .u8 22, .int .u8 20, .int .u8 15, .int .u8 25, .int .u8 17, .int .u8 4, .int .u8 8, .int .u8 31, .int .u8 27, .int .u8 13, .int .u8 23, .int .u8 21, .int .u8 19, .int .u8 16, .int .u8 7, .int .u8 26, .int .u8 12, .int .u8 18, .int .u8 6, .int .u8 11, .int .u8 5, .int .u8 10, .int .u8 9] t frozen
      | o => o).modify 7 fun
      | .cells _ t frozen => .cells #[.int .u8 0, .int .u8 1, .int .u8 56, .int .u8 2, .int .u8 57, .int .u8 49, .int .u8 28, .int .u8 3, .int .u8 61, .int .u8 58, .int .u8 42, .int .u8 50, .int .u8 38, .int .u8 29, .int .u8 17, .int .u8 4, .int .u8 62, .int .u8 47, .int .u8 59, .int .u8 36, .int .u8 45, .int .u8 43, .int .u8 51, .int .u8 22, .int .u8 53, .int .u8 39, .int .u8 33, .int .u8 30, .int .u8 24, .int .u8 18, .int .u8 12, .int .u8 5, .int .u8 63, .int .u8 55, .int .u8 48, .int .u8 27, .int .u8 60, .int .u8 41, .int .u8 37, .int .u8 16, .int .u8 46, .int .u8 35, .int .u8 44, .int .u8 21, .int .u8 52, .int .u8 32, .int .u8 23, .int .u8 11, .int .u8 54, .int .u8 26, .int .u8 40, .int .u8 15, .int .u8 34, .int .u8 20, .int .u8 31, .int .u8 10, .int .u8 25, .int .u8 14, .int .u8 19, .int .u8 9, .int .u8 13, .int .u8 8, .int .u8 7, .int .u8 6] t frozen
      | o => o).modify 5 fun
      | .cells _ t frozen => .cells #[.int .u64 1, .int .u64 10, .int .u64 100, .int .u64 1000, .int .u64 10000, .int .u64 100000, .int .u64 1000000, .int .u64 10000000, .int .u64 100000000, .int .u64 1000000000, .int .u64 10000000000, .int .u64 100000000000, .int .u64 1000000000000, .int .u64 10000000000000, .int .u64 100000000000000, .int .u64 1000000000000000, .int .u64 10000000000000000, .int .u64 100000000000000000, .int .u64 1000000000000000000, .int .u64 10000000000000000000] t frozen
      | o => o).modify 4 fun
      | .cells _ t frozen => .cells #[.int .u8 128, .int .u8 191, .int .u8 160, .int .u8 191, .int .u8 128, .int .u8 159, .int .u8 144, .int .u8 191, .int .u8 128, .int .u8 143, .int .u8 0, .int .u8 0, .int .u8 0, .int .u8 0, .int .u8 0, .int .u8 0, .int .u8 0, .int .u8 0, .int .u8 0, .int .u8 0, .int .u8 0, .int .u8 0, .int .u8 0, .int .u8 0, .int .u8 0, .int .u8 0, .int .u8 0, .int .u8 0, .int .u8 0, .int .u8 0, .int .u8 0, .int .u8 0] t frozen
      | o => o).modify 2 fun
      | .cells _ t frozen => .cells #[.iface 117 (.pointer (some ⟨(World.settled Tryd.prog os).heap.size + 0, 0, none⟩))] t frozen
      | o => o).modify 1 fun
      | .cells _ t frozen => .cells #[.iface 117 (.pointer (some ⟨(World.settled Tryd.prog os).heap.size + 1, 0, none⟩))] t frozen
      | o => o).modify 3 fun
      | .cells _ t frozen => .cells (Go.Pinned.utf8FirstZ.map fun (n : Nat) => Value.int .u8 (n : Int)).toArray t frozen
      | o => o) }
theorem laid_met (os : Os) : laidMet Tryd.prog Rows.frameResponsesUptoRow.laid ((laidWorld os).forCall (fun _ _ => 0) ⟨#[], #[.agg #[.int .i64 0, .string ⟨#[]⟩, .int .i64 0, .slice none 0 0], .string ⟨#[]⟩], []⟩).memory :=
  laidMet_of_run' 8 (by kernel_rfl) (by kernel_rfl)
theorem reads (os : Os) {H : Type} (enc : TypeId × Value → H) : ∃ places, DataW.whole enc Tryd.prog ((laidWorld os).forCall (fun _ _ => 0) ⟨#[], #[.agg #[.int .i64 0, .string ⟨#[]⟩, .int .i64 0, .slice none 0 0], .string ⟨#[]⟩], []⟩).memory Tryd.f7.params.toList Rows.frameResponsesSpec.vars false #[.agg #[.int .i64 0, .string ⟨#[]⟩, .int .i64 0, .slice none 0 0], .string ⟨#[]⟩].toList 8 = some ([.agg [.lit (.int .i64 0), .lit (.string []), .lit (.int .i64 0), .nil], .lit (.string [])], [], places) :=
  ⟨[], by kernel_rfl⟩

set_option maxRecDepth 100000 in
theorem liftedUpto (os : Os) (started : os.Started) (H : Type) (enc : TypeId × Value → H) (F : Stop.Interp) :
    ReturnsInHanded {} Tryd.checked os 7 .any ((Rows.OpenSpec.upto Rows.frameResponsesSpec).preRow enc Tryd.prog Tryd.f7 Rows.frameResponsesUptoRow.domain false Rows.frameResponsesUptoRow.laid) (((Rows.OpenSpec.upto Rows.frameResponsesSpec).at F).post enc Tryd.prog Tryd.f7 false true false false) := by
  obtain ⟨places, hx⟩ := reads os enc
  refine returnsInHanded_of_row (C := Tryd.checked) (s := Rows.OpenSpec.upto Rows.frameResponsesSpec) own started (by kernel_rfl) Tryd.func7
    (witness_row_atRef (enc := enc) (C := Tryd.checked) false (laidWorld os) #[.agg #[.int .i64 0, .string ⟨#[]⟩, .int .i64 0, .slice none 0 0], .string ⟨#[]⟩] rfl (by kernel_rfl) (by kernel_rfl) (by kernel_rfl)
      (OpenSpec.preRow_of_cond 8 hx (by kernel_rfl) (fun k hk => by cases hk; kernel_rfl) (by kernel_rfl) (laid_met os))) ?_
  intro W base args ds gs before hval hW _ hcond _ _ _ _
  exact contract H enc W base args ds gs before hval hW (hcond _ rfl)

theorem saidUpto : Rows.FrameResponsesUptoSaid :=
  OpenClaim.holds_of_cond 7 Tryd.f7 rfl rfl rfl rfl rfl rfl rfl ⟨rfl, rfl, rfl, rfl, rfl⟩ rfl rfl rfl rfl rfl (by kernel_rfl) Tryd.func7 (by kernel_rfl)
    (of_decide_eq_true (by kernel_rfl)) (by unfold Func.isWrapper; first | (rw [if_pos (by decide +kernel)]; kernel_rfl) | (rw [if_neg (by decide +kernel)]; exact ⟨rfl, rfl⟩))
    (fun os started H enc _ F => by rw [OpenClaim.pre_eq_preRow]; exact liftedUpto os started H enc F)

theorem plain (f : FuncId) (fn : Func) (hf : Tryd.pinned.checked.prog.funcNamed "conduit/conduitlaw06.FrameResponses" = some f) (hfn : Tryd.pinned.checked.prog.funcs[f]? = some fn) :
    true = Tryd.pinned.checked.prog.looks [] ∧ ∀ (j : Nat) t, fn.params[j]? = some t → Tryd.pinned.checked.prog.wantsStandIn t = false := by
  obtain rfl : f = 7 := Option.some.inj ((show Tryd.prog.funcNamed "conduit/conduitlaw06.FrameResponses" = some 7 by kernel_rfl).symm.trans hf) |>.symm
  obtain rfl : fn = Tryd.f7 := (Option.some.inj (Tryd.func7.symm.trans hfn)).symm
  refine ⟨by kernel_rfl, fun j t ht => ?_⟩
  rw [Tryd.params7] at ht
  have hm := Array.mem_of_getElem? ht
  simp only [List.mem_toArray, List.mem_cons, List.not_mem_nil, or_false] at hm
  rcases hm with rfl | rfl
  · exact (show Tryd.prog.wantsStandIn 46 = false by kernel_rfl)
  · exact (show Tryd.prog.wantsStandIn 9 = false by kernel_rfl)

theorem proved : Rows.FrameResponsesUptoCardSaid :=
  Claim7.holds_tied_plain_at .later [] _ _ _ _ saidUpto (fun _ h => by cases h) (by kernel_rfl) (fun _ h => by cases h) frameResponsesUpto_row_tie rfl ⟨rfl, rfl⟩ (by kernel_rfl) rfl plain (by kernel_rfl)
end Go.Proofs.YtocgnjkikgcjdaaDoor.frameResponses
