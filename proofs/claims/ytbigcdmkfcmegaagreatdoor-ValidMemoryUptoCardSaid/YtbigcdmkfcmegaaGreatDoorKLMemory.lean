/- ValidMemory: for every input within the second form's bound the law answers true and leaves its arguments as they were. Condition: the bulk of the arguments at most 1048576. -/
import Derived.Test.YtbigcdmkfcmegaaGreatDoorCards
import Derived.Test.YtbigcdmkfcmegaaGreatDoorTie
import Derived.Test.YtbigcdmkfcmegaaGreatDoorM5
import Derived.Test.YtbigcdmkfcmegaaGreatDoorM7
import Derived.Test.YtbigcdmkfcmegaaGreatDoorM20
import Derived.Test.YtbigcdmkfcmegaaGreatDoorM23
import Derived.Test.YtbigcdmkfcmegaaGreatDoorM24
import Derived.Test.YtbigcdmkfcmegaaGreatDoorM25
import Derived.Test.YtbigcdmkfcmegaaGreatDoorM26
import Derived.Test.YtbigcdmkfcmegaaGreatDoorM27
import Derived.BigQuiet
import Derived.Deep.QuietTactic
import Derived.WalkKit
import Derived.ProofKit
import Derived.OpenShut
import Derived.JoinedCond
import Derived.Deep.DeepHandedRow
import Derived.Deep.DeepWitnessRowRef
import Derived.Lib.LaidTab
set_option linter.unusedVariables false
set_option linter.unusedSimpArgs false
set_option maxRecDepth 100000
namespace Go.Proofs.YtbigcdmkfcmegaaGreatDoor.validMemory
open Go.ChangeShapes Go.WideShapes Go.ChangeAt Go.RowKit

theorem merge_le (a b : List Fld) : (mergeL a b).length ≤ a.length + b.length := by
  unfold mergeL
  split
  · omega
  · unfold outL
    have h1 := withoutF_le a ((newsL b).map Prod.fst)
    have h2 : (newsL b).length ≤ b.length := withoutF_le b hopP
    rw [List.length_append]
    omega
theorem okB {l : List Fld} (h : ∀ f ∈ l, f.1.length ≤ 1048576 ∧ f.2.length ≤ 1048576) : FlenOK l := fun f hf => by have := h f hf; omega
/-- The row's block lies from lo on, below hi. -/
def Lies (v : Value) (lo hi : Nat) : Prop := ∀ k, v.ownBlock = some k → lo ≤ k ∧ k < hi
theorem Lies.apart {v u : Value} {a b c d : Nat} (hv : Lies v a b) (hu : Lies u c d) (h : b ≤ c ∨ d ≤ a) : v.ownBlock = none ∨ v.ownBlock ≠ u.ownBlock := by
  cases hv' : v.ownBlock with
  | none => exact .inl rfl
  | some k =>
    refine .inr fun e => ?_
    have h1 := hv k hv'
    have h2 := hu k e.symm
    omega
theorem own_far {w w' : World} {B : Nat} {v : Value} {l : List Fld} {row : Option Nat} (h : OwnF w B v l) (hg : w.grownBy w' row) (hne : v.ownBlock = none ∨ v.ownBlock ≠ row) : OwnF w' B v l := World.ownsRow.kept h hg hne
theorem own_lies {w : World} {B : Nat} {v : Value} {l : List Fld} (h : OwnF w B v l) : Lies v B w.heap.size := fun k hk => World.ownsRow.lt h k hk
set_option maxRecDepth 100000
set_option maxHeartbeats 8000000 in
theorem walk (w : World) (Q : Option Addr) (qn qc : Nat) (st0 : List Fld) (hq : RdF w Q qn st0) (hqn : qn ≤ 1048576) (hqf : ∀ f ∈ st0, f.1.length ≤ 1048576 ∧ f.2.length ≤ 1048576) (P : Option Addr) (pn pc : Nat) (up : List Fld) (hp : RdF w P pn up) (hpn : pn ≤ 1048576) (hpf : ∀ f ∈ up, f.1.length ≤ 1048576 ∧ f.2.length ≤ 1048576) (st : Int) (hs1 : -9223372036854775808 ≤ st) (hs2 : st ≤ 9223372036854775807) (rs : List UInt8) (minor : Int) (A : Option Addr) (n c : Nat) (l : List Fld) (hl : RdF w A n l) (hn : n + 3 ≤ 1048576) (hf : ∀ f ∈ l, f.1.length ≤ 1048576 ∧ f.2.length ≤ 1048576) (hnc : n ≤ c) (hcm : c ≤ maxLen) :
    Calls Tryz.prog 4 #[.slice Q qn qc, .slice P pn pc, respV st rs minor A n c] w fun x w' => x = .returned (.bool true) ∧ Below w.heap.size w w' := by
  unfold respV
  replace hn : n ≤ 1048576 := by omega
  have hls : FlenS l := hf
  have hst : -9223372036854775808 ≤ st ∧ st ≤ 9223372036854775807 := ⟨hs1, hs2⟩
  have hb0 := alloc_below w (.cells #[.int .i64 st, .string (bs rs), .int .i64 minor, .slice A n c] 24)
  have hr1 := heap_alloc_new w (.cells #[.int .i64 st, .string (bs rs), .int .i64 minor, .slice A n c] 24)
  go_enter Tryz.func4, Tryz.ntmps4
  go_upto_region 1 with fail
  generalize w.alloc (.cells #[.int .i64 st, .string (bs rs), .int .i64 minor, .slice A n c] 24) = w2 at *
  have hq0 := hq
  have fQ := okB hqf
  have fP := okB hpf
  replace hq := hq.step hb0
  replace hp := hp.step hb0
  replace hl := hl.step hb0
  have HML : Hid ((mergeL st0 up).length ≤ qn + pn) := Lib.hid (by have := merge_le st0 up; have := hq.1; have := hp.1; omega)
  have HAL : Hid ((Val.askL l).length ≤ 2) := Lib.hid (Val.ask_len l)
  clear hqf hpf hf
  go_wp2_with fail
  refine (alive18 w2).mono ?_
  rintro x w3 ⟨rfl, hb3⟩
  replace hr1 := row_keep hr1 hb3
  replace hq := hq.step hb3
  replace hp := hp.step hb3
  replace hl := hl.step hb3
  replace hb0 := bnext hb0 hb3 hb0.size
  clear hb3
  have hz0 : w.heap.size ≤ w3.heap.size := hb0.size
  have hC := merge_p Q P qn qc pn pc st0 up w3 hq hp (by omega) fQ fP
  go_wp2_with fail
  refine hC.mono ?_
  rintro x w4 ⟨Aa, na, ca, rfl, oa, hb9⟩
  clear hC
  have La := own_lies oa
  have hz1 := hb9.size
  replace hr1 := row_keep hr1 hb9
  replace hq := hq.step hb9
  replace hp := hp.step hb9
  replace hl := hl.step hb9
  replace hb0 := bnext hb0 hb9 hb0.size
  clear hb9
  have hC := merge_p Q P qn qc pn pc st0 up w4 hq hp (by omega) fQ fP
  go_wp2_with fail
  refine hC.mono ?_
  rintro x w5 ⟨Ab, nb, cb, rfl, ob, hb9⟩
  clear hC
  have Lb := own_lies ob
  have hz2 := hb9.size
  replace oa := oa.step hb9
  replace hr1 := row_keep hr1 hb9
  replace hq := hq.step hb9
  replace hp := hp.step hb9
  replace hl := hl.step hb9
  replace hb0 := bnext hb0 hb9 hb0.size
  clear hb9
  obtain ⟨a0, a1, a2, a3, -⟩ := row_facts4 hr1
  have hC := ask_p st rs minor A n c l w5 hl hn hls
  unfold respV at hC
  go_wp2_with fail
  refine hC.mono ?_
  rintro x w6 ⟨Ac, nc, cc, rfl, oc, hb9⟩
  clear hC
  clear a0 a1 a2 a3
  have Lc := own_lies oc
  have hz3 := hb9.size
  replace oa := oa.step hb9
  replace ob := ob.step hb9
  replace hr1 := row_keep hr1 hb9
  replace hq := hq.step hb9
  replace hp := hp.step hb9
  replace hl := hl.step hb9
  replace hb0 := bnext hb0 hb9 hb0.size
  clear hb9
  obtain ⟨a0, a1, a2, a3, -⟩ := row_facts4 hr1
  have hC := ask_p st rs minor A n c l w6 hl hn hls
  unfold respV at hC
  go_wp2_with fail
  refine hC.mono ?_
  rintro x w7 ⟨Ad, nd, cd, rfl, od, hb9⟩
  clear hC
  clear a0 a1 a2 a3
  have Ld := own_lies od
  have hz4 := hb9.size
  replace oa := oa.step hb9
  replace ob := ob.step hb9
  replace oc := oc.step hb9
  replace hr1 := row_keep hr1 hb9
  replace hq := hq.step hb9
  replace hp := hp.step hb9
  replace hl := hl.step hb9
  replace hb0 := bnext hb0 hb9 hb0.size
  clear hb9
  have hC := merge_r Q P qn qc pn pc st0 up w7 hq hp (by omega) fQ fP
  go_wp2_with fail
  refine hC.mono ?_
  rintro x w8 ⟨Am, nm, cm, rfl, om, hb9⟩
  clear hC
  have Lm := own_lies om
  have hz5 := hb9.size
  replace oa := oa.step hb9
  replace ob := ob.step hb9
  replace oc := oc.step hb9
  replace od := od.step hb9
  replace hr1 := row_keep hr1 hb9
  replace hq := hq.step hb9
  replace hp := hp.step hb9
  replace hl := hl.step hb9
  replace hb0 := bnext hb0 hb9 hb0.size
  clear hb9
  obtain ⟨a0, a1, a2, a3, -⟩ := row_facts4 hr1
  have hC := ask_r st rs minor A n c l w8 hl hn hls
  unfold respV at hC
  go_wp2_with fail
  refine hC.mono ?_
  rintro x w9 ⟨Ar, nr, cr, rfl, or, hb9⟩
  clear hC
  clear a0 a1 a2 a3
  have Lr := own_lies or
  have hz6 := hb9.size
  replace oa := oa.step hb9
  replace ob := ob.step hb9
  replace oc := oc.step hb9
  replace od := od.step hb9
  replace om := om.step hb9
  replace hr1 := row_keep hr1 hb9
  replace hq := hq.step hb9
  replace hp := hp.step hb9
  replace hl := hl.step hb9
  replace hb0 := bnext hb0 hb9 hb0.size
  clear hb9
  have HA9 : Hid ((mergeL st0 up).length ≤ 140737488355328) := Lib.hid (by have := HML.out; omega)
  have HR9 : Hid ((Val.askL l).length ≤ 140737488355328) := Lib.hid (by have := HAL.out; omega)
  have hna : na ≤ 4194304 := by have := oa.rd.1; have := HML.out; omega
  have hnc1 : nc ≤ 4194304 := by have := oc.rd.1; have := HAL.out; omega
  generalize mergeL st0 up = MM at *
  generalize Val.askL l = R at *
  clear hls hst hl hp fP HML HAL
  have hC := sameFields_any Aa Am na nm ca cm MM MM w9 oa.rd om.rd (by rw [← oa.rd.1]; exact HA9.out) (by rw [← om.rd.1]; exact HA9.out)
  rw [show (MM == MM) = true by simp] at hC
  go_wp2_with fail
  refine hC.mono ?_
  rintro x w10 ⟨rfl, hb9⟩
  clear hC
  have hz7 := hb9.size
  replace oa := oa.step hb9
  replace ob := ob.step hb9
  replace oc := oc.step hb9
  replace od := od.step hb9
  replace om := om.step hb9
  replace or := or.step hb9
  replace hq := hq.step hb9
  replace hb0 := bnext hb0 hb9 hb0.size
  clear hb9
  have hC := sameFields_any Ab Am nb nm cb cm MM MM w10 ob.rd om.rd (by rw [← ob.rd.1]; exact HA9.out) (by rw [← om.rd.1]; exact HA9.out)
  rw [show (MM == MM) = true by simp] at hC
  go_wp2_with fail
  refine hC.mono ?_
  rintro x w11 ⟨rfl, hb9⟩
  clear hC
  have hz8 := hb9.size
  replace oa := oa.step hb9
  replace ob := ob.step hb9
  replace oc := oc.step hb9
  replace od := od.step hb9
  replace om := om.step hb9
  replace or := or.step hb9
  replace hq := hq.step hb9
  replace hb0 := bnext hb0 hb9 hb0.size
  clear hb9
  have hC := sameFields_any Ac Ar nc nr cc cr R R w11 oc.rd or.rd (by rw [← oc.rd.1]; exact HR9.out) (by rw [← or.rd.1]; exact HR9.out)
  rw [show (R == R) = true by simp] at hC
  go_wp2_with fail
  refine hC.mono ?_
  rintro x w12 ⟨rfl, hb9⟩
  clear hC
  have hz9 := hb9.size
  replace oa := oa.step hb9
  replace ob := ob.step hb9
  replace oc := oc.step hb9
  replace od := od.step hb9
  replace om := om.step hb9
  replace or := or.step hb9
  replace hq := hq.step hb9
  replace hb0 := bnext hb0 hb9 hb0.size
  clear hb9
  have hC := sameFields_any Ad Ar nd nr cd cr R R w12 od.rd or.rd (by rw [← od.rd.1]; exact HR9.out) (by rw [← or.rd.1]; exact HR9.out)
  rw [show (R == R) = true by simp] at hC
  go_wp2_with fail
  refine hC.mono ?_
  rintro x w13 ⟨rfl, hb9⟩
  clear hC
  have hz10 := hb9.size
  replace oa := oa.step hb9
  replace ob := ob.step hb9
  replace oc := oc.step hb9
  replace od := od.step hb9
  replace om := om.step hb9
  replace or := or.step hb9
  replace hq := hq.step hb9
  replace hb0 := bnext hb0 hb9 hb0.size
  clear hb9
  have hC := copyFields_own Q qn qc st0 w13 hq (by omega)
  go_wp2_with fail
  refine hC.mono ?_
  rintro x w14 ⟨As, ns, cs, rfl, os, hb9⟩
  clear hC
  have Ls := own_lies os
  have hz11 := hb9.size
  replace oa := oa.step hb9
  replace ob := ob.step hb9
  replace oc := oc.step hb9
  replace od := od.step hb9
  replace om := om.step hb9
  replace or := or.step hb9
  replace hq := hq.step hb9
  replace hb0 := bnext hb0 hb9 hb0.size
  clear hb9
  have hC := marked_any Aa na ca _ _ w14 oa hna (by omega)
  go_wp2_with fail
  refine hC.mono ?_
  rintro x w15 ⟨rfl, hg⟩
  clear hC
  have hz12 := hg.size
  replace ob := own_far ob hg (Lb.apart La (by omega))
  replace oc := own_far oc hg (Lc.apart La (by omega))
  replace od := own_far od hg (Ld.apart La (by omega))
  replace om := own_far om hg (Lm.apart La (by omega))
  replace or := own_far or hg (Lr.apart La (by omega))
  replace os := own_far os hg (Ls.apart La (by omega))
  replace hb0 := hb0.grown hg (by omega) (fun k hk => by have := (La k hk).1; omega)
  clear hg oa
  have hC := marked_any Ac nc cc _ _ w15 oc hnc1 (by omega)
  go_wp2_with fail
  refine hC.mono ?_
  rintro x w16 ⟨rfl, hg⟩
  clear hC
  have hz13 := hg.size
  replace ob := own_far ob hg (Lb.apart Lc (by omega))
  replace od := own_far od hg (Ld.apart Lc (by omega))
  replace om := own_far om hg (Lm.apart Lc (by omega))
  replace or := own_far or hg (Lr.apart Lc (by omega))
  replace os := own_far os hg (Ls.apart Lc (by omega))
  replace hb0 := hb0.grown hg (by omega) (fun k hk => by have := (Lc k hk).1; omega)
  clear hg oc
  have hq := hq0.step hb0
  have hC := sameFields_any Ab Am nb nm cb cm MM MM w16 ob.rd om.rd (by rw [← ob.rd.1]; exact HA9.out) (by rw [← om.rd.1]; exact HA9.out)
  rw [show (MM == MM) = true by simp] at hC
  go_wp2_with fail
  refine hC.mono ?_
  rintro x w17 ⟨rfl, hb9⟩
  clear hC
  have hz14 := hb9.size
  replace ob := ob.step hb9
  replace od := od.step hb9
  replace om := om.step hb9
  replace or := or.step hb9
  replace os := os.step hb9
  replace hq := hq.step hb9
  replace hb0 := bnext hb0 hb9 hb0.size
  clear hb9
  have hC := sameFields_any Ad Ar nd nr cd cr R R w17 od.rd or.rd (by rw [← od.rd.1]; exact HR9.out) (by rw [← or.rd.1]; exact HR9.out)
  rw [show (R == R) = true by simp] at hC
  go_wp2_with fail
  refine hC.mono ?_
  rintro x w18 ⟨rfl, hb9⟩
  clear hC
  have hz15 := hb9.size
  replace od := od.step hb9
  replace or := or.step hb9
  replace os := os.step hb9
  replace hq := hq.step hb9
  replace hb0 := bnext hb0 hb9 hb0.size
  clear hb9
  have hqc := hq.1
  have hC := sameFields_any Q As qn ns qc cs st0 st0 w18 hq os.rd (by omega) (by have := os.rd.1; omega)
  rw [show (st0 == st0) = true by simp] at hC
  go_wp2_with fail
  refine hC.mono ?_
  rintro x w19 ⟨rfl, hb9⟩
  clear hC
  replace hb0 := bnext hb0 hb9 hb0.size
  clear hb9 hr1
  go_wp2
  go_ret
  exact ⟨rfl, hb0⟩

theorem own : ownKnob Tryz.prog.godebug = none := by kernel_rfl
theorem contract (H : Type) (enc : TypeId × Value → H) (W : World) (base : Nat) (args : Array Value) (ds gs : List (DataW H)) (before : List MemPlace)
    (hval : ∀ (j : Nat) t v, Tryz.f4.params[j]? = some t → args[j]? = some v → Value.okWide Tryz.prog W .any base t v)
    (hW : DataW.Whole enc Tryz.prog Tryz.f4.params.toList Rows.validMemorySpec.vars false W args.toList ds gs before) (hk : Rows.uptoSmall H (ds ++ gs) = true) :
    Calls Tryz.prog 4 args W fun e W' => ∃ v, e = .returned v ∧ Rows.validMemorySpec.post enc Tryz.prog Tryz.f4 false true false false W args v W' := by
  have hW' := hW
  obtain ⟨p, q, hA0, hV, rfl, hfz, hnd⟩ := hW
  have hA : DataW.TrodAll enc Tryz.prog W 0 (fun _ => true) true Tryz.f4.params.toList args.toList ds p := hA0
  rw [Tryz.params4] at hA hval
  obtain ⟨v0, vs0, d0, ds0, p0, q0, hargs, rfl, rfl, h0, r0⟩ := trodAll_cons hA
  obtain ⟨v1, vs1, d1, ds1, p1, q1, rfl, rfl, rfl, h1, r1⟩ := trodAll_cons r0
  obtain ⟨v2, vs2, d2, ds2, p2, q2, rfl, rfl, rfl, h2, r2⟩ := trodAll_cons r1
  obtain ⟨rfl, rfl, rfl⟩ := trodAll_nil r2
  obtain rfl : args = #[v0, v1, v2] := by cases args; simp_all
  obtain ⟨rfl, rfl⟩ := trodVars_none hV
  have hall := bulks.bound hk
  simp only [List.append_nil, Rows.uptoBulkAll] at hall
  have hb0 : Rows.uptoBulk d0 ≤ 1048576 := by omega
  have hb1 : Rows.uptoBulk d1 ≤ 1048576 := by omega
  have hb2 : Rows.uptoBulk d2 ≤ 1048576 := by omega
  clear hall
  obtain ⟨A0, n0, c0, l0, rfl, hr0, hn0, hf0⟩ := opF (hval 0 22 v0 rfl rfl) h0 hb0
  obtain ⟨A1, n1, c1, l1, rfl, hr1, hn1, hf1⟩ := opF (hval 1 22 v1 rfl rfl) h1 hb1
  obtain ⟨st2, rs2, x2, A2, n2, c2, l2, rfl, hr2, hn2, hf2, hc2, hd2, hs2, ht2⟩ := opResp (hval 2 24 v2 rfl rfl) h2 hb2
  clear hA0
  refine (walk W A0 n0 c0 l0 hr0 hn0 hf0 A1 n1 c1 l1 hr1 hn1 hf1 st2 hs2 ht2 rs2 x2 A2 n2 c2 l2 hr2 hn2 hf2 hc2 hd2).mono fun e W' ⟨he, hg⟩ => ?_
  subst he
  exact ⟨_, rfl, post_of_below (pa := p0 ++ (p1 ++ (p2 ++ ([])))) (pv := []) hW' (fun _ _ _ => (trodAll_cons_mk (shut_bool Tryz.underlying4 _) trodAll_mk0)) (fun sp hsp => (trodAll_cons_mk (arg_stays laidOut (by kernel_rfl) (of_decide_eq_true (by kernel_rfl)) h0 hg (fun x hx => hW'.lt x (by simp [hx])) sp (fun x hx => hsp x (by simp [hx]))) (trodAll_cons_mk (arg_stays laidOut (by kernel_rfl) (of_decide_eq_true (by kernel_rfl)) h1 hg (fun x hx => hW'.lt x (by simp [hx])) sp (fun x hx => hsp x (by simp [hx]))) (trodAll_cons_mk (arg_stays laidOut (by kernel_rfl) (of_decide_eq_true (by kernel_rfl)) h2 hg (fun x hx => hW'.lt x (by simp [hx])) sp (fun x hx => hsp x (by simp [hx]))) trodAll_mk0)))) (fun _ _ => rfl) rfl
    hg (ok_one (by kernel_rfl) rfl (okWide_bool_mk Tryz.underlying4 _))⟩

/-- A world for the witness: the settled one, the listed variables holding what the program lays. -/
noncomputable def laidWorld (os : Os) : World :=
  { (World.holding Tryz.prog os ⟨#[.cells #[.string ⟨#[118, 97, 108, 117, 101, 32, 111, 117, 116, 32, 111, 102, 32, 114, 97, 110, 103, 101]⟩] 144, .cells #[.string ⟨#[105, 110, 118, 97, 108, 105, 100, 32, 115, 121, 110, 116, 97, 120]⟩] 144], #[], []⟩) with heap := ((((((World.holding Tryz.prog os ⟨#[.cells #[.string ⟨#[118, 97, 108, 117, 101, 32, 111, 117, 116, 32, 111, 102, 32, 114, 97, 110, 103, 101]⟩] 144, .cells #[.string ⟨#[105, 110, 118, 97, 108, 105, 100, 32, 115, 121, 110, 116, 97, 120]⟩] 144], #[], []⟩).heap.modify 6 fun
      | .cells _ t frozen => .cells #[.int .u8 0, .int .u8 1, .int .u8 28, .int .u8 2, .int .u8 29, .int .u8 14, .int .u8 24, .int .u8 3, .int .u8 30, .int .u8 22, .int .u8 20, .int .u8 15, .int .u8 25, .int .u8 17, .int .u8 4, .int .u8 8, .int .u8 31, .int .u8 27, .int .u8 13, .int .u8 23, .int .u8 21, .int .u8 19, .int .u8 16, .int .u8 7, .int .u8 26, .int .u8 12, .int .u8 18, .int .u8 6, .int .u8 11, .int .u8 5, .int .u8 10, .int .u8 9] t frozen
      | o => o).modify 7 fun
      | .cells _ t frozen => .cells #[.int .u8 0, .int .u8 1, .int .u8 56, .int .u8 2, .int .u8 57, .int .u8 49, .int .u8 28, .int .u8 3, .int .u8 61, .int .u8 58, .int .u8 42, .int .u8 50, .int .u8 38, .int .u8 29, .int .u8 17, .int .u8 4, .int .u8 62, .int .u8 47, .int .u8 59, .int .u8 36, .int .u8 45, .int .u8 43, .int .u8 51, .int .u8 22, .int .u8 53, .int .u8 39, .int .u8 33, .int .u8 30, .int .u8 24, .int .u8 18, .int .u8 12, .int .u8 5, .int .u8 63, .int .u8 55, .int .u8 48, .int .u8 27, .int .u8 60, .int .u8 41, .int .u8 37, .int .u8 16, .int .u8 46, .int .u8 35, .int .u8 44, .int .u8 21, .int .u8 52, .int .u8 32, .int .u8 23, .int .u8 11, .int .u8 54, .int .u8 26, .int .u8 40, .int .u8 15, .int .u8 34, .int .u8 20, .int .u8 31, .int .u8 10, .int .u8 25, .int .u8 14, .int .u8 19, .int .u8 9, .int .u8 13, .int .u8 8, .int .u8 7, .int .u8 6] t frozen
      | o => o).modify 5 fun
      | .cells _ t frozen => .cells #[.int .u64 1, .int .u64 10, .int .u64 100, .int .u64 1000, .int .u64 10000, .int .u64 100000, .int .u64 1000000, .int .u64 10000000, .int .u64 100000000, .int .u64 1000000000, .int .u64 10000000000, .int .u64 100000000000, .int .u64 1000000000000, .int .u64 10000000000000, .int .u64 100000000000000, .int .u64 1000000000000000, .int .u64 10000000000000000, .int .u64 100000000000000000, .int .u64 1000000000000000000, .int .u64 10000000000000000000] t frozen
      | o => o).modify 2 fun
      | .cells _ t frozen => .cells #[.iface 142 (.pointer (some ⟨(World.settled Tryz.prog os).heap.size + 0, 0, none⟩))] t frozen
      | o => o).modify 1 fun
      | .cells _ t frozen => .cells #[.iface 142 (.pointer (some ⟨(World.settled Tryz.prog os).heap.size + 1, 0, none⟩))] t frozen
      | o => o) }
theorem laid_met (os : Os) : laidMet Tryz.prog Rows.validMemoryUptoRow.laid ((laidWorld os).forCall (fun _ _ => 0) ⟨#[], #[.slice none 0 0, .slice none 0 0, .agg #[.int .i64 0, .string ⟨#[]⟩, .int .i64 0, .slice none 0 0]], []⟩).memory :=
  laidMet_of_run' 8 (by kernel_rfl) (by kernel_rfl)

theorem reads (os : Os) {H : Type} (enc : TypeId × Value → H) : ∃ places, DataW.whole enc Tryz.prog ((laidWorld os).forCall (fun _ _ => 0) ⟨#[], #[.slice none 0 0, .slice none 0 0, .agg #[.int .i64 0, .string ⟨#[]⟩, .int .i64 0, .slice none 0 0]], []⟩).memory Tryz.f4.params.toList Rows.validMemorySpec.vars false #[.slice none 0 0, .slice none 0 0, .agg #[.int .i64 0, .string ⟨#[]⟩, .int .i64 0, .slice none 0 0]].toList 8 = some ([.nil, .nil, .agg [.lit (.int .i64 0), .lit (.string []), .lit (.int .i64 0), .nil]], [], places) :=
  ⟨[], by kernel_rfl⟩

set_option maxRecDepth 100000 in
theorem liftedUpto (os : Os) (started : os.Started) (H : Type) (enc : TypeId × Value → H) (F : Stop.Interp) :
    ReturnsInHanded {} Tryz.checked os 4 .any ((Rows.OpenSpec.upto Rows.validMemorySpec).preRow enc Tryz.prog Tryz.f4 Rows.validMemoryUptoRow.domain false Rows.validMemoryUptoRow.laid) (((Rows.OpenSpec.upto Rows.validMemorySpec).at F).post enc Tryz.prog Tryz.f4 false true false false) := by
  obtain ⟨places, hx⟩ := reads os enc
  refine returnsInHanded_of_row (C := Tryz.checked) (s := Rows.OpenSpec.upto Rows.validMemorySpec) own started (by kernel_rfl) Tryz.func4
    (witness_row_atRef (enc := enc) (C := Tryz.checked) false (laidWorld os) #[.slice none 0 0, .slice none 0 0, .agg #[.int .i64 0, .string ⟨#[]⟩, .int .i64 0, .slice none 0 0]] rfl (by kernel_rfl) (by kernel_rfl) (by kernel_rfl)
      (OpenSpec.preRow_of_cond 8 hx (by kernel_rfl) (fun k hk => by cases hk; kernel_rfl) (by kernel_rfl) (laid_met os))) ?_
  intro W base args ds gs before hval hW g1 hcond g2 g3 g4 g5
  exact contract H enc W base args ds gs before hval hW (hcond _ rfl)

theorem saidUpto : Rows.ValidMemoryUptoSaid :=
  OpenClaim.holds_of_cond 4 Tryz.f4 rfl rfl rfl rfl rfl rfl rfl ⟨rfl, rfl, rfl, rfl, rfl⟩ rfl rfl rfl rfl rfl (by kernel_rfl) Tryz.func4 (by kernel_rfl)
    (of_decide_eq_true (by kernel_rfl)) (by unfold Func.isWrapper; first | (rw [if_pos (by decide +kernel)]; kernel_rfl) | (rw [if_neg (by decide +kernel)]; exact ⟨rfl, rfl⟩))
    (fun os started H enc _ F => by rw [OpenClaim.pre_eq_preRow]; exact liftedUpto os started H enc F)

theorem plain (f : FuncId) (fn : Func) (hf : Tryz.pinned.checked.prog.funcNamed "conduit/conduitlaw18.ValidMemory" = some f) (hfn : Tryz.pinned.checked.prog.funcs[f]? = some fn) :
    true = Tryz.pinned.checked.prog.looks [] ∧ ∀ (j : Nat) t, fn.params[j]? = some t → Tryz.pinned.checked.prog.wantsStandIn t = false := by
  obtain rfl : f = 4 := Option.some.inj ((show Tryz.prog.funcNamed "conduit/conduitlaw18.ValidMemory" = some 4 by kernel_rfl).symm.trans hf) |>.symm
  obtain rfl : fn = Tryz.f4 := (Option.some.inj (Tryz.func4.symm.trans hfn)).symm
  refine ⟨by kernel_rfl, fun j t ht => ?_⟩
  rw [Tryz.params4] at ht
  have hm := Array.mem_of_getElem? ht
  simp only [List.mem_toArray, List.mem_cons, List.not_mem_nil, or_false] at hm
  rcases hm with rfl | rfl | rfl
  · exact (show Tryz.prog.wantsStandIn 22 = false by kernel_rfl)
  · exact (show Tryz.prog.wantsStandIn 22 = false by kernel_rfl)
  · exact (show Tryz.prog.wantsStandIn 24 = false by kernel_rfl)

theorem proved : Rows.ValidMemoryUptoCardSaid :=
  Claim7.holds_tied_plain_at .later [] _ _ _ _ saidUpto (fun _ h => by cases h) (by kernel_rfl) (fun _ h => by cases h) validMemoryUpto_row_tie rfl ⟨rfl, rfl⟩ (by kernel_rfl) rfl plain (by kernel_rfl)
end Go.Proofs.YtbigcdmkfcmegaaGreatDoor.validMemory
