/- FrameStrict: for every input within the second form's bound the law answers true and leaves its arguments as they were. Condition: the bulk of the arguments at most 1048576. -/
import Derived.Test.YtocgnjkikgcjdaaDoorCards
import Derived.Test.YtocgnjkikgcjdaaDoorTie
import Derived.Test.YtocgnjkikgcjdaaDoorFrmP
import Derived.Test.YtocgnjkikgcjdaaDoorOpenR
import Derived.Test.YtocgnjkikgcjdaaDoorOpen
import Derived.Test.YtocgnjkikgcjdaaDoorBulk
import Derived.WalkKit
import Derived.ProofKit
import Derived.OpenShut
import Derived.JoinedCond
import Derived.Deep.DeepHandedRow
import Derived.Deep.DeepWitnessRowRef
import Derived.Lib.LaidTab
set_option linter.unusedVariables false
set_option linter.unusedSimpArgs false
set_option maxRecDepth 100000
namespace Go.Proofs.YtocgnjkikgcjdaaDoor.frameStrict
open Go.ChangeShapes Go.WideShapes Go.ChangeAt Go.RowKit

theorem strictL {minor : Int} {l : List Fld} : ((valuesL l nTE).isEmpty = false → (valuesL l nCL).isEmpty = false → (ruleL minor l 0).2.2 = 61) ∧ ((ruleL minor l 0).2.2 ≠ 0 → (ruleL minor l 0).1 = 0 ∧ (ruleL minor l 0).2.1 = 0) ∧
    ((ruleL minor l 0).2.2 = 0 → ((ruleL minor l 0).1 = 1 ∧ (valuesL l nTE).isEmpty = true ∧ (valuesL l nCL).isEmpty = false ∧ 0 ≤ (ruleL minor l 0).2.1 ∧ (ruleL minor l 0).2.1 ≤ 65536) ∨ ((ruleL minor l 0).1 = 2 ∧ (ruleL minor l 0).2.1 = 0 ∧ (valuesL l nTE).isEmpty = false ∧ (valuesL l nCL).isEmpty = true) ∨ ((ruleL minor l 0).1 = 0 ∧ (ruleL minor l 0).2.1 = 0 ∧ (valuesL l nTE).isEmpty = true ∧ (valuesL l nCL).isEmpty = true)) := by
  have hL : ∀ E, (lenL E).2 = 0 → 0 ≤ (lenL E).1 ∧ (lenL E).1 ≤ 65536 := by
    intro E h
    cases E with
    | nil => simp [lenL] at h
    | cons x r =>
      unfold lenL at h ⊢
      dsimp only at h ⊢
      split at h
      · rename_i ha
        split at h
        · simp at h
        · rename_i hgt
          rw [if_pos ha, if_neg hgt]
          have := List.all_eq_true.1 ha x (List.mem_cons_self ..)
          simp at this
          exact ⟨this, by omega⟩
      · simp at h
  unfold ruleL
  cases h1 : (valuesL l nTE).isEmpty <;> cases h2 : (valuesL l nCL).isEmpty <;> simp
  · by_cases h3 : minor = 0 ∨ ¬ tokensL l nTE = [wCh]
    · rw [if_pos h3]; simp
    · rw [if_neg h3]; simp
  · by_cases h3 : (lenL (elemsV (valuesL l nCL))).2 = 0
    · rw [if_pos h3]; simp; exact hL _ h3
    · rw [if_neg h3]; simp [h3]
set_option maxHeartbeats 2000000 in
theorem walk (w : World) (m t : List UInt8) (minor : Int) (A : Option Addr) (n c : Nat) (l : List Fld) (hA : RdF w A n l) (hn : n + 3 ≤ 1048576) (hf : ∀ f ∈ l, f.1.length ≤ 1048576 ∧ f.2.length ≤ 1048576) (hnc : n ≤ c) (hcm : c ≤ maxLen) :
    Calls Tryd.prog 5 #[reqV m t minor A n c] w fun e w' => e = .returned (.bool true) ∧ Below w.heap.size w w' := by
  unfold reqV
  replace hn : n ≤ 1048576 := by omega
  have HSt := Lib.hid (strictL (minor := minor) (l := l))
  have HVn : Hid ((valuesL l nCL).length ≤ n) := Lib.hid (by rw [← hA.1]; exact values_le l nCL)
  obtain ⟨q1, q2, q3⟩ := ruleL_names minor l 0
  clear q3
  have Hq1 := Lib.hid q1
  have Hq2 := Lib.hid q2
  clear q1 q2
  have hal := alloc_below w (.cells #[.string (bs m), .string (bs t), .int .i64 minor, .slice A n c] 27)
  have hr0 := heap_alloc_new w (.cells #[.string (bs m), .string (bs t), .int .i64 minor, .slice A n c] 27)
  have hl0 := hA.step hal
  clear hA
  go_enter Tryd.func5, Tryd.ntmps5
  go_wp2_with fail
  refine (alive_any _).mono ?_
  rintro e w1 ⟨rfl, hb1⟩
  have hr1 := row_keep hr0 hb1
  have hl1 := hl0.step hb1
  have hbA := bnext hal hb1 hal.size
  clear hal hr0 hl0 hb1
  obtain ⟨a0, a1, a2, a3, -⟩ := row_facts4 hr1
  go_wp2_with fail
  refine (copyRequest_any m t minor A n c l w1 hl1 hn).mono ?_
  rintro e w2 ⟨A', n', c', rfl, hl2', hb2⟩
  have hn' : n' ≤ 1048576 := by have := hl2'.1; have := hl1.1; omega
  have hr2 := row_keep hr1 hb2
  have hl2 := hl1.step hb2
  have hbB := bnext hbA hb2 hbA.size
  have hO := ofRequest_any m t minor A' n' c' l _ hl2' hn' hf
  clear hr1 hl1 hbA hb2 a0 a1 a2 a3
  generalize hQ : ruleL minor l 0 = q at *
  clear hQ
  obtain ⟨x, y, z⟩ := q
  unfold bodyV reqV at hO
  dsimp only at hO
  unfold reqV
  go_wp2_with fail
  refine hO.mono ?_
  rintro e w4 ⟨rfl, hb4⟩
  have hr4 := row_keep hr2 hb4
  have hl4 := hl2.step hb4
  have hbD := bnext hbB hb4 hbB.size
  have hal := alloc_below w4 (.cells #[.int .i64 x, .int .i64 y] 31)
  have hu5 := heap_alloc_new w4 (.cells #[.int .i64 x, .int .i64 y] 31)
  have hr5 := row_keep hr4 hal
  have hl5 := hl4.step hal
  have hbE := bnext hbD hal hbD.size
  obtain ⟨a0, a1, a2, a3, -⟩ := row_facts4 hr5
  clear hr2 hl2 hl2' hbB hb4 hr4 hl4 hbD hal hO
  go_wp2_with fail
  refine (copyFields_own A n c l _ hl5 (by omega)).mono ?_
  rintro e w6 ⟨A6, n6, c6, rfl, hown, hb6⟩
  have hrd := hown.rd
  have hn6 : n6 ≤ 1048576 := by have := hrd.1; have := hl5.1; omega
  have hr6 := row_keep hr5 hb6
  have hu6 := row_keep hu5 hb6
  have hl6 := hl5.step hb6
  have hbF := bnext hbE hb6 hbE.size
  clear hown hr5 hu5 hl5 hbE hb6 a0 a1 a2 a3
  go_wp2_with fail
  refine (values_own A6 n6 c6 l [67, 111, 110, 116, 101, 110, 116, 45, 76, 101, 110, 103, 116, 104] w6 hrd (by omega) (FlenS.ok hf) (by simp)).mono ?_
  rintro e w7 ⟨A7, n7, c7, rfl, hS, hb7⟩
  rw [Hq2.out] at hS
  have hlen7 := hS.rd.1
  have hr7 := row_keep hr6 hb7
  have hu7 := row_keep hu6 hb7
  have hl7 := hl6.step hb7
  have hbG := bnext hbF hb7 hbF.size
  obtain ⟨a0, a1, a2, a3, -⟩ := row_facts4 hr7
  clear hS hrd hr6 hu6 hl6 hbF hb7
  go_wp2_with fail
  refine (copyFields_own A n c l _ hl7 (by omega)).mono ?_
  rintro e w8 ⟨A8, n8, c8, rfl, hown, hb8⟩
  have hrd := hown.rd
  have hn8 : n8 ≤ 1048576 := by have := hrd.1; have := hl7.1; omega
  have hu8 := row_keep hu7 hb8
  have hbH := bnext hbG hb8 hbG.size
  clear hown hr7 hu7 hl7 hbG hb8 a0 a1 a2 a3
  go_wp2_with fail
  refine (get_any A8 n8 c8 l [84, 114, 97, 110, 115, 102, 101, 114, 45, 69, 110, 99, 111, 100, 105, 110, 103] _ hrd hn8 hf (by simp)).mono ?_
  rintro e w9 ⟨rfl, hb9⟩
  rw [Hq1.out]
  generalize Lib.join (valuesL l nTE) [44, 32] = js at *
  have hu9 := row_keep hu8 hb9
  have hbI := bnext hbH hb9 hbH.size
  obtain ⟨d0, d1, -, -⟩ := res_facts hu9
  clear hu8 hbH hb9 hu9 hrd
  have hn7e : (valuesL l nCL).isEmpty = decide (n7 = 0) := by
    rw [← hlen7]
    cases valuesL l nCL with
    | nil => rfl
    | cons x r => simp
  have hn7b : n7 ≤ 1048576 := by have := HVn.out; omega
  clear hlen7
  have hq := eql_body x y 0 0
  have hg := eqg_body
  have HbI := Lib.hid hbI
  clear hbI
  obtain ⟨s1, s2, s3⟩ := HSt.out
  clear HSt HVn Hq1 Hq2
  cases hte : (valuesL l nTE).isEmpty <;> cases hcl : (valuesL l nCL).isEmpty <;> rw [hcl] at hn7e
  · obtain rfl : z = 61 := s1 hte hcl
    obtain ⟨rfl, rfl⟩ : x = 0 ∧ y = 0 := s2 (by omega)
    have hpos : (0 : Int) < (n7 : Int) := by simp at hn7e; omega
    clear s1 s2 s3 hte hcl hn7e
    go_wp2
    go_ret
    exact ⟨rfl, HbI.out⟩
  · obtain rfl : n7 = 0 := by simpa using hn7e.symm
    by_cases hz : z = 0
    · subst hz
      have s4 := s3 rfl
      rw [hte, hcl] at s4
      obtain ⟨rfl, rfl⟩ : x = 2 ∧ y = 0 := by simpa using s4
      clear s1 s2 s3 s4 hte hcl hn7e
      go_wp2
      go_ret
      exact ⟨rfl, HbI.out⟩
    · obtain ⟨rfl, rfl⟩ := s2 hz
      have hz0 : (z != 0) = true := by simp [hz]
      clear s1 s2 s3 hte hcl hn7e hz
      go_wp2
      go_ret
      exact ⟨rfl, HbI.out⟩
  · have hpos : (0 : Int) < (n7 : Int) := by simp at hn7e; omega
    by_cases hz : z = 0
    · subst hz
      have s4 := s3 rfl
      rw [hte, hcl] at s4
      obtain ⟨rfl, y0, y1⟩ : x = 1 ∧ 0 ≤ y ∧ y ≤ 65536 := by simpa using s4
      clear s1 s2 s3 s4 hte hcl hn7e
      go_wp2
      go_ret
      exact ⟨rfl, HbI.out⟩
    · obtain ⟨rfl, rfl⟩ := s2 hz
      have hz0 : (z != 0) = true := by simp [hz]
      clear s1 s2 s3 hte hcl hn7e hz
      go_wp2
      go_ret
      exact ⟨rfl, HbI.out⟩
  · obtain rfl : n7 = 0 := by simpa using hn7e.symm
    by_cases hz : z = 0
    · subst hz
      have s4 := s3 rfl
      rw [hte, hcl] at s4
      obtain ⟨rfl, rfl⟩ : x = 0 ∧ y = 0 := by simpa using s4
      clear s1 s2 s3 s4 hte hcl hn7e
      go_wp2
      go_ret
      exact ⟨rfl, HbI.out⟩
    · obtain ⟨rfl, rfl⟩ := s2 hz
      have hz0 : (z != 0) = true := by simp [hz]
      clear s1 s2 s3 hte hcl hn7e hz
      go_wp2
      go_ret
      exact ⟨rfl, HbI.out⟩

theorem own : ownKnob Tryd.prog.godebug = none := by kernel_rfl
theorem contract (H : Type) (enc : TypeId × Value → H) (W : World) (base : Nat) (args : Array Value) (ds gs : List (DataW H)) (before : List MemPlace)
    (hval : ∀ (j : Nat) t v, Tryd.f5.params[j]? = some t → args[j]? = some v → Value.okWide Tryd.prog W .any base t v)
    (hW : DataW.Whole enc Tryd.prog Tryd.f5.params.toList Rows.frameStrictSpec.vars false W args.toList ds gs before) (hk : Rows.uptoSmall H (ds ++ gs) = true) :
    Calls Tryd.prog 5 args W fun e W' => ∃ v, e = .returned v ∧ Rows.frameStrictSpec.post enc Tryd.prog Tryd.f5 false true false false W args v W' := by
  have hW' := hW
  obtain ⟨p, q, hA0, hV, rfl, hfz, hnd⟩ := hW
  have hA : DataW.TrodAll enc Tryd.prog W 0 (fun _ => true) true Tryd.f5.params.toList args.toList ds p := hA0
  rw [Tryd.params5] at hA hval
  obtain ⟨v0, vs0, d0, ds0, p0, q0, hargs, rfl, rfl, h0, r0⟩ := trodAll_cons hA
  obtain ⟨rfl, rfl, rfl⟩ := trodAll_nil r0
  obtain rfl : args = #[v0] := by cases args; simp_all
  obtain ⟨rfl, rfl⟩ := trodVars_none hV
  have hall := bulks.bound hk
  simp only [List.append_nil, Rows.uptoBulkAll] at hall
  have hb0 : Rows.uptoBulk d0 ≤ 1048576 := by omega
  clear hall
  obtain ⟨m0, t0, x0, A0, n0, c0, l0, rfl, hr0, hn0, hf0, hc0, hd0⟩ := opReq (hval 0 27 v0 rfl rfl) h0 hb0
  clear hA0
  refine (walk W m0 t0 x0 A0 n0 c0 l0 hr0 hn0 hf0 hc0 hd0).mono fun e W' ⟨he, hg⟩ => ?_
  subst he
  exact ⟨_, rfl, post_of_below (pa := p0 ++ ([])) (pv := []) hW' (fun _ _ _ => (trodAll_cons_mk (shut_bool Tryd.underlying4 _) trodAll_mk0)) (fun sp hsp => (trodAll_cons_mk (arg_stays laidOut (by kernel_rfl) (of_decide_eq_true (by kernel_rfl)) h0 hg (fun x hx => hW'.lt x (by simp [hx])) sp (fun x hx => hsp x (by simp [hx]))) trodAll_mk0)) (fun _ _ => rfl) rfl
    hg (ok_one (by kernel_rfl) rfl (okWide_bool_mk Tryd.underlying4 _))⟩

/-- A world for the witness: the settled one, the listed variables holding what the program lays. -/
noncomputable def laidWorld (os : Os) : World :=
  { (World.holding Tryd.prog os ⟨#[.cells #[.string ⟨#[118, 97, 108, 117, 101, 32, 111, 117, 116, 32, 111, 102, 32, 114, 97, 110, 103, 101]⟩] 119, .cells #[.string ⟨#[105, 110, 118, 97, 108, 105, 100, 32, 115, 121, 110, 116, 97, 120]⟩] 119], #[], []⟩) with heap := ((((((((World.holding Tryd.prog os ⟨#[.cells #[.string ⟨#[118, 97, 108, 117, 101, 32, 111, 117, 116, 32, 111, 102, 32, 114, 97, 110, 103, 101]⟩] 119, .cells #[.string ⟨#[105, 110, 118, 97, 108, 105, 100, 32, 115, 121, 110, 116, 97, 120]⟩] 119], #[], []⟩).heap.modify 6 fun
      | .cells _ t frozen => .cells #[.int .u8 0, .int .u8 1, .int .u8 28, .int .u8 2, .int .u8 29, .int .u8 14, .int .u8 24, .int .u8 3, .int .u8 30, .int .u8 22, .int .u8 20, .int .u8 15, .int .u8 25, .int .u8 17, .int .u8 4, .int .u8 8, .int .u8 31, .int .u8 27, .int .u8 13, .int .u8 23, .int .u8 21, .int .u8 19, .int .u8 16, .int .u8 7, .int .u8 26, .int .u8 12, .int .u8 18, .int .u8 6, .int .u8 11, .int .u8 5, .int .u8 10, .int .u8 9] t frozen
      | o => o).modify 7 fun
      | .cells _ t frozen => .cells #[.int .u8 0, .int .u8 1, .int .u8 56, .int .u8 2, .int .u8 57, .int .u8 49, .int .u8 28, .int .u8 3, .int .u8 61, .int .u8 58, .int .u8 42, .int .u8 50, .int .u8 38, .int .u8 29, .int .u8 17, .int .u8 4, .int .u8 62, .int .u8 47, .int .u8 59, .int .u8 36, .int .u8 45, .int .u8 43, .int .u8 51, .int .u8 22, .int .u8 53, .int .u8 39, .int .u8 33, .int .u8 30, .int .u8 24, .int .u8 18, .int .u8 12, .int .u8 5, .int .u8 63, .int .u8 55, .int .u8 48, .int .u8 27, .int .u8 60, .int .u8 41, .int .u8 37, .int .u8 16, .int .u8 46, .int .u8 35, .int .u8 44, .int .u8 21, .int .u8 52, .int .u8 32, .int .u8 23, .int .u8 11, .int .u8 54, .int .u8 26, .int .u8 40, .int .u8 15, .int .u8 34, .int .u8 20, .int .u8 31, .int .u8 10, .int .u8 25, .int .u8 14, .int .u8 19, .int .u8 9, .int .u8 13, .int .u8 8, .int .u8 7, .int .u8 6] t frozen
      | o => o).modify 5 fun
      | .cells _ t frozen => .cells #[.int .u64 1, .int .u64 10, .int .u64 100, .int .u64 1000, .int .u64 10000, .int .u64 100000, .int .u64 1000000, .int .u64 10000000, .int .u64 100000000, .int .u64 1000000000, .int .u64 10000000000, .int .u64 100000000000, .int .u64 1000000000000, .int .u64 10000000000000, .int .u64 100000000000000, .int .u64 1000000000000000, .int .u64 10000000000000000, .int .u64 100000000000000000, .int .u64 1000000000000000000, .int .u64 10000000000000000000] t frozen
      | o => o).modify 4 fun
      | .cells _ t frozen => .cells #[.int .u8 128, .int .u8 191, .int .u8 160, .int .u8 191, .int .u8 128, .int .u8 159, .int .u8 144, .int .u8 191, .int .u8 128, .int .u8 143, .int .u8 0, .int .u8 0, .int .u8 0, .int .u8 0, .int .u8 0, .int .u8 0, .int .u8 0, .int .u8 0, .int .u8 0, .int .u8 0, .int .u8 0, .int .u8 0, .int .u8 0, .int .u8 0, .int .u8 0, .int .u8 0, .int .u8 0, .int .u8 0, .int .u8 0, .int .u8 0, .int .u8 0, .int .u8 0] t frozen
      | o => o).modify 2 fun
      | .cells _ t frozen => .cells #[.iface 117 (.pointer (some ⟨(World.settled Tryd.prog os).heap.size + 0, 0, none⟩))] t frozen
      | o => o).modify 1 fun
      | .cells _ t frozen => .cells #[.iface 117 (.pointer (some ⟨(World.settled Tryd.prog os).heap.size + 1, 0, none⟩))] t frozen
      | o => o).modify 3 fun
      | .cells _ t frozen => .cells (Go.Pinned.utf8FirstZ.map fun (n : Nat) => Value.int .u8 (n : Int)).toArray t frozen
      | o => o) }
theorem laid_met (os : Os) : laidMet Tryd.prog Rows.frameStrictUptoRow.laid ((laidWorld os).forCall (fun _ _ => 0) ⟨#[], #[.agg #[.string ⟨#[]⟩, .string ⟨#[]⟩, .int .i64 0, .slice none 0 0]], []⟩).memory :=
  laidMet_of_run' 8 (by kernel_rfl) (by kernel_rfl)
theorem reads (os : Os) {H : Type} (enc : TypeId × Value → H) : ∃ places, DataW.whole enc Tryd.prog ((laidWorld os).forCall (fun _ _ => 0) ⟨#[], #[.agg #[.string ⟨#[]⟩, .string ⟨#[]⟩, .int .i64 0, .slice none 0 0]], []⟩).memory Tryd.f5.params.toList Rows.frameStrictSpec.vars false #[.agg #[.string ⟨#[]⟩, .string ⟨#[]⟩, .int .i64 0, .slice none 0 0]].toList 8 = some ([.agg [.lit (.string []), .lit (.string []), .lit (.int .i64 0), .nil]], [], places) :=
  ⟨[], by kernel_rfl⟩

set_option maxRecDepth 100000 in
theorem liftedUpto (os : Os) (started : os.Started) (H : Type) (enc : TypeId × Value → H) (F : Stop.Interp) :
    ReturnsInHanded {} Tryd.checked os 5 .any ((Rows.OpenSpec.upto Rows.frameStrictSpec).preRow enc Tryd.prog Tryd.f5 Rows.frameStrictUptoRow.domain false Rows.frameStrictUptoRow.laid) (((Rows.OpenSpec.upto Rows.frameStrictSpec).at F).post enc Tryd.prog Tryd.f5 false true false false) := by
  obtain ⟨places, hx⟩ := reads os enc
  refine returnsInHanded_of_row (C := Tryd.checked) (s := Rows.OpenSpec.upto Rows.frameStrictSpec) own started (by kernel_rfl) Tryd.func5
    (witness_row_atRef (enc := enc) (C := Tryd.checked) false (laidWorld os) #[.agg #[.string ⟨#[]⟩, .string ⟨#[]⟩, .int .i64 0, .slice none 0 0]] rfl (by kernel_rfl) (by kernel_rfl) (by kernel_rfl)
      (OpenSpec.preRow_of_cond 8 hx (by kernel_rfl) (fun k hk => by cases hk; kernel_rfl) (by kernel_rfl) (laid_met os))) ?_
  intro W base args ds gs before hval hW _ hcond _ _ _ _
  exact contract H enc W base args ds gs before hval hW (hcond _ rfl)

theorem saidUpto : Rows.FrameStrictUptoSaid :=
  OpenClaim.holds_of_cond 5 Tryd.f5 rfl rfl rfl rfl rfl rfl rfl ⟨rfl, rfl, rfl, rfl, rfl⟩ rfl rfl rfl rfl rfl (by kernel_rfl) Tryd.func5 (by kernel_rfl)
    (of_decide_eq_true (by kernel_rfl)) (by unfold Func.isWrapper; first | (rw [if_pos (by decide +kernel)]; kernel_rfl) | (rw [if_neg (by decide +kernel)]; exact ⟨rfl, rfl⟩))
    (fun os started H enc _ F => by rw [OpenClaim.pre_eq_preRow]; exact liftedUpto os started H enc F)

theorem plain (f : FuncId) (fn : Func) (hf : Tryd.pinned.checked.prog.funcNamed "conduit/conduitlaw06.FrameStrict" = some f) (hfn : Tryd.pinned.checked.prog.funcs[f]? = some fn) :
    true = Tryd.pinned.checked.prog.looks [] ∧ ∀ (j : Nat) t, fn.params[j]? = some t → Tryd.pinned.checked.prog.wantsStandIn t = false := by
  obtain rfl : f = 5 := Option.some.inj ((show Tryd.prog.funcNamed "conduit/conduitlaw06.FrameStrict" = some 5 by kernel_rfl).symm.trans hf) |>.symm
  obtain rfl : fn = Tryd.f5 := (Option.some.inj (Tryd.func5.symm.trans hfn)).symm
  refine ⟨by kernel_rfl, fun j t ht => ?_⟩
  rw [Tryd.params5] at ht
  have hm := Array.mem_of_getElem? ht
  simp only [List.mem_toArray, List.mem_cons, List.not_mem_nil, or_false] at hm
  rcases hm with rfl
  · exact (show Tryd.prog.wantsStandIn 27 = false by kernel_rfl)

theorem proved : Rows.FrameStrictUptoCardSaid :=
  Claim7.holds_tied_plain_at .later [] _ _ _ _ saidUpto (fun _ h => by cases h) (by kernel_rfl) (fun _ h => by cases h) frameStrictUpto_row_tie rfl ⟨rfl, rfl⟩ (by kernel_rfl) rfl plain (by kernel_rfl)
end Go.Proofs.YtocgnjkikgcjdaaDoor.frameStrict
