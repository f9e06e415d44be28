/- FreshAges: for every input within the second form's bound the law answers true and leaves its arguments as they were. Condition: the bulk of the arguments at most 1048576. -/
import Derived.Test.YtfhkgbimnfjfhaaGreatDoorCards
import Derived.Test.YtfhkgbimnfjfhaaGreatDoorTie
import Derived.Test.YtfhkgbimnfjfhaaGreatDoorM36
import Derived.Test.YtfhkgbimnfjfhaaGreatDoorM38
import Derived.WalkKit
import Derived.ProofKit
import Derived.OpenShut
import Derived.JoinedCond
import Derived.Deep.DeepHandedRow
import Derived.Deep.DeepWitnessRowRef
import Derived.Lib.LaidTab
set_option linter.unusedVariables false
set_option linter.unusedSimpArgs false
set_option maxRecDepth 100000
namespace Go.Proofs.YtfhkgbimnfjfhaaGreatDoor.freshAges
open Go.ChangeShapes Go.WideShapes Go.ChangeAt Go.RowKit

set_option maxRecDepth 100000
set_option maxHeartbeats 8000000 in
theorem walk (w : World) (hM : MaxL w) (e : Frs.Ent) (A : Option Addr) (n c : Nat) (B : Option Addr) (m k : Nat) (he : e.ok 1048576) (hl : RdF w A n e.l) (hB : RdB w B m e.b) (hn : n + 3 ≤ 1048576) (hm : m ≤ 1048576) (now : Int) (hi : -9223372036854775808 ≤ now) (hj : now ≤ 9223372036854775807) (more : Int) (hi2 : -9223372036854775808 ≤ more) (hj2 : more ≤ 9223372036854775807) :
    Calls Tryz.prog 5 #[entV e A n c B m k, .int .i64 now, .int .i64 more] w fun x w' => x = .returned (.bool true) ∧ Below w.heap.size w w' := by
  replace hn : n ≤ 1048576 := by omega
  have hls : FlenS e.l := he.2.2.2.1
  unfold entV
  have hal0 := alloc_below w (.cells #[.string (bs e.key), .string (bs e.vary), .int .i64 e.st, .string (bs e.rs), .int .i64 e.mi, .slice A n c, .slice B m k, .int .i64 e.asked, .int .i64 e.got] 27)
  have hr1 := heap_alloc_new w (.cells #[.string (bs e.key), .string (bs e.vary), .int .i64 e.st, .string (bs e.rs), .int .i64 e.mi, .slice A n c, .slice B m k, .int .i64 e.asked, .int .i64 e.got] 27)
  have hb0 := hal0
  clear hal0
  go_enter Tryz.func5, Tryz.ntmps5
  go_upto_region 1 with fail
  generalize (w.alloc (.cells #[.string (bs e.key), .string (bs e.vary), .int .i64 e.st, .string (bs e.rs), .int .i64 e.mi, .slice A n c, .slice B m k, .int .i64 e.asked, .int .i64 e.got] 27)) = w2 at *
  replace hl := hl.step hb0
  replace hB := hB.step hb0
  replace hM := maxl_b hM hb0
  go_wp2_with fail
  refine (alive16_any w2 hM).mono ?_
  rintro x w3 ⟨rfl, hb3⟩
  replace hr1 := row_keep hr1 hb3
  replace hl := hl.step hb3
  replace hB := hB.step hb3
  replace hM := maxl_b hM hb3
  replace hb0 := bnext hb0 hb3 hb0.size
  clear hb3
  go_upto_region 3 with fail
  have hab := Frs.age_bd e.l e.asked e.got now
  have HG := Lib.hid (Frs.age_grows e.l e.asked e.got now more)
  obtain ⟨a0, a1, a2, a3, a4, a5, a6, a7, a8, -⟩ := row_facts9 hr1
  have hC := copyEntry_any e A n c B m k _ hl hn hB (by omega)
  unfold entV at hC
  go_wp2_with fail
  refine hC.mono ?_
  rintro x wA ⟨A1, n1, c1, B1, m1, k1, rfl, hl1, hB1, hb4⟩
  clear hC
  clear a0 a1 a2 a3 a4 a5 a6 a7 a8
  have hn1 : n1 ≤ 1048576 := by have := hl1.1; have := hl.1; omega
  replace hr1 := row_keep hr1 hb4
  replace hl := hl.step hb4
  replace hB := hB.step hb4
  replace hM := maxl_b hM hb4
  replace hb0 := bnext hb0 hb4 hb0.size
  clear hb4
  have hC := age_any e A1 n1 c1 B1 m1 k1 (now) wA hl1 hn1 hls
  unfold entV at hC
  generalize Frs.ageL e.l e.asked e.got now = a at *
  go_wp2_with fail
  refine hC.mono ?_
  rintro x wB ⟨rfl, hb5⟩
  clear hC hl1 hB1 hn1
  replace hr1 := row_keep hr1 hb5
  replace hl := hl.step hb5
  replace hB := hB.step hb5
  replace hM := maxl_b hM hb5
  replace hb0 := bnext hb0 hb5 hb0.size
  clear hb5
  have hz : ¬ a < 0 := by omega
  by_cases g1 : now < 0
  · go_wp2
    go_ret
    exact ⟨rfl, hb0⟩
  by_cases g2 : now < e.got
  · obtain ⟨a0, a1, a2, a3, a4, a5, a6, a7, a8, -⟩ := row_facts9 hr1
    go_wp2
    go_ret
    exact ⟨rfl, hb0⟩
  by_cases g3 : more < 0
  · obtain ⟨a0, a1, a2, a3, a4, a5, a6, a7, a8, -⟩ := row_facts9 hr1
    go_wp2
    go_ret
    exact ⟨rfl, hb0⟩
  by_cases g4 : 68719476736 < now
  · obtain ⟨a0, a1, a2, a3, a4, a5, a6, a7, a8, -⟩ := row_facts9 hr1
    go_wp2
    go_ret
    exact ⟨rfl, hb0⟩
  by_cases g5 : 68719476736 < more
  · obtain ⟨a0, a1, a2, a3, a4, a5, a6, a7, a8, -⟩ := row_facts9 hr1
    go_wp2
    go_ret
    exact ⟨rfl, hb0⟩
  have hgr := HG.out (by omega) (by omega) (by omega) (by omega) (by omega)
  have q1 : IntKind.i64.wrap (now + more) = now + more := IntWalk.i64_in _ (by omega)
  have q2 : IntKind.i64.wrap (a + more) = a + more := IntWalk.i64_in _ (by omega)
  obtain ⟨a0, a1, a2, a3, a4, a5, a6, a7, a8, -⟩ := row_facts9 hr1
  go_upto_region 8 with fail
  clear a0 a1 a2 a3 a4 a5 a6 a7 a8
  obtain ⟨a0, a1, a2, a3, a4, a5, a6, a7, a8, -⟩ := row_facts9 hr1
  have hC := copyEntry_any e A n c B m k _ hl hn hB (by omega)
  unfold entV at hC
  go_wp2_with fail
  refine hC.mono ?_
  rintro x wA ⟨A1, n1, c1, B1, m1, k1, rfl, hl1, hB1, hb4⟩
  clear hC
  clear a0 a1 a2 a3 a4 a5 a6 a7 a8
  have hn1 : n1 ≤ 1048576 := by have := hl1.1; have := hl.1; omega
  replace hr1 := row_keep hr1 hb4
  replace hl := hl.step hb4
  replace hB := hB.step hb4
  replace hM := maxl_b hM hb4
  replace hb0 := bnext hb0 hb4 hb0.size
  clear hb4
  have hC := age_any e A1 n1 c1 B1 m1 k1 (now + more) wA hl1 hn1 hls
  unfold entV at hC
  rw [hgr] at hC
  go_wp2_with fail
  refine hC.mono ?_
  rintro x wB ⟨rfl, hb5⟩
  clear hC hl1 hB1 hn1
  replace hr1 := row_keep hr1 hb5
  replace hl := hl.step hb5
  replace hB := hB.step hb5
  replace hM := maxl_b hM hb5
  replace hb0 := bnext hb0 hb5 hb0.size
  clear hb5
  go_wp2
  go_ret
  exact ⟨rfl, hb0⟩

theorem own : ownKnob Tryz.prog.godebug = none := by kernel_rfl
theorem contract (H : Type) (enc : TypeId × Value → H) (W : World) (base : Nat) (args : Array Value) (ds gs : List (DataW H)) (before : List MemPlace)
    (hval : ∀ (j : Nat) t v, Tryz.f5.params[j]? = some t → args[j]? = some v → Value.okWide Tryz.prog W .any base t v)
    (hW : DataW.Whole enc Tryz.prog Tryz.f5.params.toList Rows.freshAgesSpec.vars false W args.toList ds gs before) (hk : Rows.uptoSmall H (ds ++ gs) = true) (hmax : MaxL W) :
    Calls Tryz.prog 5 args W fun e W' => ∃ v, e = .returned v ∧ Rows.freshAgesSpec.post enc Tryz.prog Tryz.f5 false true false false W args v W' := by
  have hW' := hW
  obtain ⟨p, q, hA0, hV, rfl, hfz, hnd⟩ := hW
  have hA : DataW.TrodAll enc Tryz.prog W 0 (fun _ => true) true Tryz.f5.params.toList args.toList ds p := hA0
  rw [Tryz.params5] at hA hval
  obtain ⟨v0, vs0, d0, ds0, p0, q0, hargs, rfl, rfl, h0, r0⟩ := trodAll_cons hA
  obtain ⟨v1, vs1, d1, ds1, p1, q1, rfl, rfl, rfl, h1, r1⟩ := trodAll_cons r0
  obtain ⟨v2, vs2, d2, ds2, p2, q2, rfl, rfl, rfl, h2, r2⟩ := trodAll_cons r1
  obtain ⟨rfl, rfl, rfl⟩ := trodAll_nil r2
  obtain rfl : args = #[v0, v1, v2] := by cases args; simp_all
  obtain ⟨rfl, rfl⟩ := trodVars_none hV
  have hall := bulks.bound hk
  simp only [List.append_nil, Rows.uptoBulkAll] at hall
  have hb0 : Rows.uptoBulk d0 ≤ 1048576 := by omega
  have hb1 : Rows.uptoBulk d1 ≤ 1048576 := by omega
  have hb2 : Rows.uptoBulk d2 ≤ 1048576 := by omega
  clear hall
  obtain ⟨e0, A0, n0, c0, B0, m0, k0, rfl, he0, hr0, ht0, hn0, hm0, -⟩ := opEnt (hval 0 27 v0 rfl rfl) h0 hb0
  obtain ⟨i1, rfl, hi1, hj1⟩ := opI (hval 1 3 v1 rfl rfl) h1
  obtain ⟨i2, rfl, hi2, hj2⟩ := opI (hval 2 3 v2 rfl rfl) h2
  clear hA0
  refine (walk W hmax e0 A0 n0 c0 B0 m0 k0 he0 hr0 ht0 hn0 hm0 i1 hi1 hj1 i2 hi2 hj2).mono fun e W' ⟨he, hg⟩ => ?_
  subst he
  exact ⟨_, rfl, post_of_below (pa := p0 ++ (p1 ++ (p2 ++ ([])))) (pv := []) hW' (fun _ _ _ => (trodAll_cons_mk (shut_bool Tryz.underlying4 _) trodAll_mk0)) (fun sp hsp => (trodAll_cons_mk (arg_stays laidOut (by kernel_rfl) (of_decide_eq_true (by kernel_rfl)) h0 hg (fun x hx => hW'.lt x (by simp [hx])) sp (fun x hx => hsp x (by simp [hx]))) (trodAll_cons_mk (arg_stays laidOut (by kernel_rfl) (of_decide_eq_true (by kernel_rfl)) h1 hg (fun x hx => hW'.lt x (by simp [hx])) sp (fun x hx => hsp x (by simp [hx]))) (trodAll_cons_mk (arg_stays laidOut (by kernel_rfl) (of_decide_eq_true (by kernel_rfl)) h2 hg (fun x hx => hW'.lt x (by simp [hx])) sp (fun x hx => hsp x (by simp [hx]))) trodAll_mk0)))) (fun _ _ => rfl) rfl
    hg (ok_one (by kernel_rfl) rfl (okWide_bool_mk Tryz.underlying4 _))⟩

/-- A world for the witness: the settled one, the listed variables holding what the program lays. -/
noncomputable def laidWorld (os : Os) : World :=
  { (World.holding Tryz.prog os ⟨#[.cells #[.string ⟨#[118, 97, 108, 117, 101, 32, 111, 117, 116, 32, 111, 102, 32, 114, 97, 110, 103, 101]⟩] 184, .cells #[.string ⟨#[105, 110, 118, 97, 108, 105, 100, 32, 115, 121, 110, 116, 97, 120]⟩] 184], #[], []⟩) with heap := ((((((((World.holding Tryz.prog os ⟨#[.cells #[.string ⟨#[118, 97, 108, 117, 101, 32, 111, 117, 116, 32, 111, 102, 32, 114, 97, 110, 103, 101]⟩] 184, .cells #[.string ⟨#[105, 110, 118, 97, 108, 105, 100, 32, 115, 121, 110, 116, 97, 120]⟩] 184], #[], []⟩).heap.modify 6 fun
      | .cells _ t frozen => .cells #[.int .u8 0, .int .u8 1, .int .u8 28, .int .u8 2, .int .u8 29, .int .u8 14, .int .u8 24, .int .u8 3, .int .u8 30, .int .u8 22, .int .u8 20, .int .u8 15, .int .u8 25, .int .u8 17, .int .u8 4, .int .u8 8, .int .u8 31, .int .u8 27, .int .u8 13, .int .u8 23, .int .u8 21, .int .u8 19, .int .u8 16, .int .u8 7, .int .u8 26, .int .u8 12, .int .u8 18, .int .u8 6, .int .u8 11, .int .u8 5, .int .u8 10, .int .u8 9] t frozen
      | o => o).modify 7 fun
      | .cells _ t frozen => .cells #[.int .u8 0, .int .u8 1, .int .u8 56, .int .u8 2, .int .u8 57, .int .u8 49, .int .u8 28, .int .u8 3, .int .u8 61, .int .u8 58, .int .u8 42, .int .u8 50, .int .u8 38, .int .u8 29, .int .u8 17, .int .u8 4, .int .u8 62, .int .u8 47, .int .u8 59, .int .u8 36, .int .u8 45, .int .u8 43, .int .u8 51, .int .u8 22, .int .u8 53, .int .u8 39, .int .u8 33, .int .u8 30, .int .u8 24, .int .u8 18, .int .u8 12, .int .u8 5, .int .u8 63, .int .u8 55, .int .u8 48, .int .u8 27, .int .u8 60, .int .u8 41, .int .u8 37, .int .u8 16, .int .u8 46, .int .u8 35, .int .u8 44, .int .u8 21, .int .u8 52, .int .u8 32, .int .u8 23, .int .u8 11, .int .u8 54, .int .u8 26, .int .u8 40, .int .u8 15, .int .u8 34, .int .u8 20, .int .u8 31, .int .u8 10, .int .u8 25, .int .u8 14, .int .u8 19, .int .u8 9, .int .u8 13, .int .u8 8, .int .u8 7, .int .u8 6] t frozen
      | o => o).modify 5 fun
      | .cells _ t frozen => .cells #[.int .u64 1, .int .u64 10, .int .u64 100, .int .u64 1000, .int .u64 10000, .int .u64 100000, .int .u64 1000000, .int .u64 10000000, .int .u64 100000000, .int .u64 1000000000, .int .u64 10000000000, .int .u64 100000000000, .int .u64 1000000000000, .int .u64 10000000000000, .int .u64 100000000000000, .int .u64 1000000000000000, .int .u64 10000000000000000, .int .u64 100000000000000000, .int .u64 1000000000000000000, .int .u64 10000000000000000000] t frozen
      | o => o).modify 2 fun
      | .cells _ t frozen => .cells #[.int .u8 128, .int .u8 191, .int .u8 160, .int .u8 191, .int .u8 128, .int .u8 159, .int .u8 144, .int .u8 191, .int .u8 128, .int .u8 143, .int .u8 0, .int .u8 0, .int .u8 0, .int .u8 0, .int .u8 0, .int .u8 0, .int .u8 0, .int .u8 0, .int .u8 0, .int .u8 0, .int .u8 0, .int .u8 0, .int .u8 0, .int .u8 0, .int .u8 0, .int .u8 0, .int .u8 0, .int .u8 0, .int .u8 0, .int .u8 0, .int .u8 0, .int .u8 0] t frozen
      | o => o).modify 4 fun
      | .cells _ t frozen => .cells #[.iface 182 (.pointer (some ⟨(World.settled Tryz.prog os).heap.size + 0, 0, none⟩))] t frozen
      | o => o).modify 3 fun
      | .cells _ t frozen => .cells #[.iface 182 (.pointer (some ⟨(World.settled Tryz.prog os).heap.size + 1, 0, none⟩))] t frozen
      | o => o).modify 1 fun
      | .cells _ t frozen => .cells (Go.Pinned.utf8FirstZ.map fun (n : Nat) => Value.int .u8 (n : Int)).toArray t frozen
      | o => o) }
theorem laid_met (os : Os) : laidMet Tryz.prog Rows.freshAgesUptoRow.laid ((laidWorld os).forCall (fun _ _ => 0) ⟨#[], #[.agg #[.string ⟨#[]⟩, .string ⟨#[]⟩, .int .i64 0, .string ⟨#[]⟩, .int .i64 0, .slice none 0 0, .slice none 0 0, .int .i64 0, .int .i64 0], .int .i64 0, .int .i64 0], []⟩).memory :=
  laidMet_of_run' 8 (by kernel_rfl) (by kernel_rfl)

theorem reads (os : Os) {H : Type} (enc : TypeId × Value → H) : ∃ places, DataW.whole enc Tryz.prog ((laidWorld os).forCall (fun _ _ => 0) ⟨#[], #[.agg #[.string ⟨#[]⟩, .string ⟨#[]⟩, .int .i64 0, .string ⟨#[]⟩, .int .i64 0, .slice none 0 0, .slice none 0 0, .int .i64 0, .int .i64 0], .int .i64 0, .int .i64 0], []⟩).memory Tryz.f5.params.toList Rows.freshAgesSpec.vars false #[.agg #[.string ⟨#[]⟩, .string ⟨#[]⟩, .int .i64 0, .string ⟨#[]⟩, .int .i64 0, .slice none 0 0, .slice none 0 0, .int .i64 0, .int .i64 0], .int .i64 0, .int .i64 0].toList 8 = some ([.agg [.lit (.string []), .lit (.string []), .agg [.lit (.int .i64 0), .lit (.string []), .lit (.int .i64 0), .nil], .nil, .lit (.int .i64 0), .lit (.int .i64 0)], .lit (.int .i64 0), .lit (.int .i64 0)], [], places) :=
  ⟨[], by kernel_rfl⟩

set_option maxRecDepth 100000 in
theorem liftedUpto (os : Os) (started : os.Started) (H : Type) (enc : TypeId × Value → H) (F : Stop.Interp) :
    ReturnsInHanded {} Tryz.checked os 5 .any ((Rows.OpenSpec.upto Rows.freshAgesSpec).preRow enc Tryz.prog Tryz.f5 Rows.freshAgesUptoRow.domain false Rows.freshAgesUptoRow.laid) (((Rows.OpenSpec.upto Rows.freshAgesSpec).at F).post enc Tryz.prog Tryz.f5 false true false false) := by
  obtain ⟨places, hx⟩ := reads os enc
  refine returnsInHanded_of_row (C := Tryz.checked) (s := Rows.OpenSpec.upto Rows.freshAgesSpec) own started (by kernel_rfl) Tryz.func5
    (witness_row_atRef (enc := enc) (C := Tryz.checked) false (laidWorld os) #[.agg #[.string ⟨#[]⟩, .string ⟨#[]⟩, .int .i64 0, .string ⟨#[]⟩, .int .i64 0, .slice none 0 0, .slice none 0 0, .int .i64 0, .int .i64 0], .int .i64 0, .int .i64 0] rfl (by kernel_rfl) (by kernel_rfl) (by kernel_rfl)
      (OpenSpec.preRow_of_cond 8 hx (by kernel_rfl) (fun k hk => by cases hk; kernel_rfl) (by kernel_rfl) (laid_met os))) ?_
  intro W base args ds gs before hval hW g1 hcond g2 g3 g4 g5
  exact contract H enc W base args ds gs before hval hW (hcond _ rfl) (by first | exact maxl_of g4 | exact maxl_of g3 | exact maxl_of g2 | exact maxl_of g5 | exact maxl_of g1)

theorem saidUpto : Rows.FreshAgesUptoSaid :=
  OpenClaim.holds_of_cond 5 Tryz.f5 rfl rfl rfl rfl rfl rfl rfl ⟨rfl, rfl, rfl, rfl, rfl⟩ rfl rfl rfl rfl rfl (by kernel_rfl) Tryz.func5 (by kernel_rfl)
    (of_decide_eq_true (by kernel_rfl)) (by unfold Func.isWrapper; first | (rw [if_pos (by decide +kernel)]; kernel_rfl) | (rw [if_neg (by decide +kernel)]; exact ⟨rfl, rfl⟩))
    (fun os started H enc _ F => by rw [OpenClaim.pre_eq_preRow]; exact liftedUpto os started H enc F)

theorem plain (f : FuncId) (fn : Func) (hf : Tryz.pinned.checked.prog.funcNamed "conduit/conduitlaw16.FreshAges" = some f) (hfn : Tryz.pinned.checked.prog.funcs[f]? = some fn) :
    true = Tryz.pinned.checked.prog.looks [] ∧ ∀ (j : Nat) t, fn.params[j]? = some t → Tryz.pinned.checked.prog.wantsStandIn t = false := by
  obtain rfl : f = 5 := Option.some.inj ((show Tryz.prog.funcNamed "conduit/conduitlaw16.FreshAges" = some 5 by kernel_rfl).symm.trans hf) |>.symm
  obtain rfl : fn = Tryz.f5 := (Option.some.inj (Tryz.func5.symm.trans hfn)).symm
  refine ⟨by kernel_rfl, fun j t ht => ?_⟩
  rw [Tryz.params5] at ht
  have hm := Array.mem_of_getElem? ht
  simp only [List.mem_toArray, List.mem_cons, List.not_mem_nil, or_false] at hm
  rcases hm with rfl | rfl | rfl
  · exact (show Tryz.prog.wantsStandIn 27 = false by kernel_rfl)
  · exact (show Tryz.prog.wantsStandIn 3 = false by kernel_rfl)
  · exact (show Tryz.prog.wantsStandIn 3 = false by kernel_rfl)

theorem proved : Rows.FreshAgesUptoCardSaid :=
  Claim7.holds_tied_plain_at .later [] _ _ _ _ saidUpto (fun _ h => by cases h) (by kernel_rfl) (fun _ h => by cases h) freshAgesUpto_row_tie rfl ⟨rfl, rfl⟩ (by kernel_rfl) rfl plain (by kernel_rfl)
end Go.Proofs.YtfhkgbimnfjfhaaGreatDoor.freshAges
