/- ValidAsks: for every input within the second form's bound the law answers true and leaves its arguments as they were. Condition: the bulk of the arguments at most 1048576. -/
import Derived.Test.YtbigcdmkfcmegaaGreatDoorCards
import Derived.Test.YtbigcdmkfcmegaaGreatDoorTie
import Derived.Test.YtbigcdmkfcmegaaGreatDoorM5
import Derived.Test.YtbigcdmkfcmegaaGreatDoorM7
import Derived.Test.YtbigcdmkfcmegaaGreatDoorM20
import Derived.Test.YtbigcdmkfcmegaaGreatDoorM23
import Derived.Test.YtbigcdmkfcmegaaGreatDoorM24
import Derived.Test.YtbigcdmkfcmegaaGreatDoorM25
import Derived.Test.YtbigcdmkfcmegaaGreatDoorM26
import Derived.BigQuiet
import Derived.Deep.QuietTactic
import Derived.WalkKit
import Derived.ProofKit
import Derived.OpenShut
import Derived.JoinedCond
import Derived.Deep.DeepHandedRow
import Derived.Deep.DeepWitnessRowRef
import Derived.Lib.LaidTab
set_option linter.unusedVariables false
set_option linter.unusedSimpArgs false
set_option maxRecDepth 100000
namespace Go.Proofs.YtbigcdmkfcmegaaGreatDoor.validAsks
open Go.ChangeShapes Go.WideShapes Go.ChangeAt Go.RowKit

/-- An operation that calls, with what it looks at and what has come up. -/
theorem callE {P : Program} {md : Region.Mode} {ops : Array Oper} {V : Nat → Value → Prop} {S : Array Bool → Act → World → Prop} {i : Nat} {o : Oper} {a : Act} {f : FuncId} {args : Array Value} (hw : Region.wanted o (yielded ops a.tmps) = true)
    (hr : ∀ w, (execOp a.eval o).run P w = .ok (.enter f args) w)
    (hc : ∀ a' L w, (∀ x ∈ o.op.operands, a'.eval x = a.eval x) → L.getD i true = false → (∀ e ∈ o.after, Region.binds md e = true → L.getD e.on false = true) → S L a' w → Calls P f args w fun e w'' => ∃ v, e = .returned v ∧ V i v ∧ S (L.setIfInBounds i true) (a'.put o.dst v) w'') : DA.YS P md ops V S i o a :=
  .inl ⟨hw, fun a' L w he hl hd h => by rw [hr w]; exact hc a' L w he hl hd h⟩
theorem slot_val {a' : Act} {p : Nat} {v : Value} (h : a'.eval (.tmp p) = v) (hv : v ≠ undef) : a'.tmps[p]? = some v := by
  have h' : (a'.tmps[p]?).getD undef = v := by simpa [Act.eval] using h
  cases e : a'.tmps[p]? with
  | none => rw [e] at h'; exact absurd h'.symm hv
  | some x => rw [e] at h'; exact congrArg some h'
/-- The answers stand in slots 9 and 11. -/
def SVA (w0 : World) (l : List Fld) (L : Array Bool) (a : Act) (W : World) : Prop :=
  Below w0.heap.size w0 W ∧ a.tmps.size = 18 ∧
  (L.getD 1 false = true → ∃ A n c, a.tmps[9]? = some (.slice A n c) ∧ RdF W A n l) ∧
  (L.getD 3 false = true → ∃ A n c, a.tmps[11]? = some (.slice A n c) ∧ RdF W A n l)
section
variable {w0 W W' : World} {l : List Fld} {L : Array Bool} {a : Act} {i : Nat} {dst : Option Tmp} {v : Value}
theorem SVA.start (h : a.tmps.size = 18) {k : Nat} : SVA w0 l (Array.replicate k false) a w0.drew :=
  ⟨(Below.refl _ _).drew, h, fun h => (by rw [DA.rep_getD] at h; cases h), fun h => (by rw [DA.rep_getD] at h; cases h)⟩
theorem SVA.other (h1 : i ≠ 1) (h3 : i ≠ 3) (d1 : dst ≠ some 9) (d3 : dst ≠ some 11) (h : SVA w0 l L a W) (hb : Below W.heap.size W W') : SVA w0 l (L.setIfInBounds i true) (a.put dst v) W' := by
  obtain ⟨a1, a2, a3, a4⟩ := h
  refine ⟨bnext a1 hb a1.size, DA.put_size.trans a2, fun hp => ?_, fun hp => ?_⟩
  · rw [getD_set_ne false h1] at hp
    obtain ⟨A, n, c, e1, e3⟩ := a3 hp
    exact ⟨A, n, c, (DA.put_get d1).trans e1, e3.step hb⟩
  · rw [getD_set_ne false h3] at hp
    obtain ⟨A, n, c, e1, e3⟩ := a4 hp
    exact ⟨A, n, c, (DA.put_get d3).trans e1, e3.step hb⟩
theorem SVA.one {A : Option Addr} {n c : Nat} (h : SVA w0 l L a W) (hb : Below W.heap.size W W') (hr : RdF W' A n l) : SVA w0 l (L.setIfInBounds 1 true) (a.put (some 9) (.slice A n c)) W' := by
  obtain ⟨a1, a2, a3, a4⟩ := h
  refine ⟨bnext a1 hb a1.size, DA.put_size.trans a2, fun hp => ⟨A, n, c, DA.put_self (by omega), hr⟩, fun hp => ?_⟩
  rw [getD_set_ne false (by decide)] at hp
  obtain ⟨A, n, c, e1, e3⟩ := a4 hp
  exact ⟨A, n, c, (DA.put_get (by simp)).trans e1, e3.step hb⟩
theorem SVA.two {A : Option Addr} {n c : Nat} (h : SVA w0 l L a W) (hb : Below W.heap.size W W') (hr : RdF W' A n l) : SVA w0 l (L.setIfInBounds 3 true) (a.put (some 11) (.slice A n c)) W' := by
  obtain ⟨a1, a2, a3, a4⟩ := h
  refine ⟨bnext a1 hb a1.size, DA.put_size.trans a2, fun hp => ?_, fun hp => ⟨A, n, c, DA.put_self (by omega), hr⟩⟩
  rw [getD_set_ne false (by decide)] at hp
  obtain ⟨A, n, c, e1, e3⟩ := a3 hp
  exact ⟨A, n, c, (DA.put_get (by simp)).trans e1, e3.step hb⟩
end
set_option maxRecDepth 100000
set_option maxHeartbeats 8000000 in
theorem walk (w : World) (st : Int) (hs1 : -9223372036854775808 ≤ st) (hs2 : st ≤ 9223372036854775807) (rs : List UInt8) (minor : Int) (A : Option Addr) (n c : Nat) (l : List Fld) (hl : RdF w A n l) (hn : n + 3 ≤ 1048576) (hf : ∀ f ∈ l, f.1.length ≤ 1048576 ∧ f.2.length ≤ 1048576) (hnc : n ≤ c) (hcm : c ≤ maxLen) :
    Calls Tryz.prog 3 #[respV st rs minor A n c] w fun x w' => x = .returned (.bool true) ∧ Below w.heap.size w w' := by
  unfold respV
  replace hn : n ≤ 1048576 := by omega
  have hls : FlenS l := hf
  have hst : -9223372036854775808 ≤ st ∧ st ≤ 9223372036854775807 := ⟨hs1, hs2⟩
  have hb0 := alloc_below w (.cells #[.int .i64 st, .string (bs rs), .int .i64 minor, .slice A n c] 24)
  have hr1 := heap_alloc_new w (.cells #[.int .i64 st, .string (bs rs), .int .i64 minor, .slice A n c] 24)
  go_enter Tryz.func3, Tryz.ntmps3
  go_upto_region 1 with fail
  generalize w.alloc (.cells #[.int .i64 st, .string (bs rs), .int .i64 minor, .slice A n c] 24) = w2 at *
  replace hl := hl.step hb0
  go_wp2_with fail
  refine (alive18 w2).mono ?_
  rintro x w3 ⟨rfl, hb3⟩
  replace hr1 := row_keep hr1 hb3
  replace hl := hl.step hb3
  replace hb0 := bnext hb0 hb3 hb0.size
  clear hb3
  go_upto_region 3 with fail
  obtain ⟨a0, a1, a2, a3, -⟩ := row_facts4 hr1
  have hC := copyResponse_any st rs minor A n c l w3 hl hn
  unfold respV at hC
  go_wp2_with fail
  refine hC.mono ?_
  rintro x w4b ⟨Ao, no, co, rfl, hA1, hb4⟩
  clear hC
  clear a0 a1 a2 a3
  replace hr1 := row_keep hr1 hb4
  replace hl := hl.step hb4
  replace hb0 := bnext hb0 hb4 hb0.size
  clear hb4
  go_upto_region 4 with fail
  have hal := alloc_below w4b (.cells #[.int .i64 st, .string (bs rs), .int .i64 minor, .slice Ao no co] 24)
  have hr5 := heap_alloc_new w4b (.cells #[.int .i64 st, .string (bs rs), .int .i64 minor, .slice Ao no co] 24)
  replace hr1 := row_keep hr1 hal
  replace hl := hl.step hal
  replace hA1 := hA1.step hal
  replace hb0 := bnext hb0 hal hb0.size
  clear hal
  generalize w4b.alloc (.cells #[.int .i64 st, .string (bs rs), .int .i64 minor, .slice Ao no co] 24) = w5 at *
  generalize w4b.heap.size = g5 at *
  have hno : no ≤ 1048576 := by have := hA1.1; have := hl.1; omega
  have HAL : Hid ((Val.askL l).length ≤ 2) := Lib.hid (Val.ask_len l)
  have H1 : Hid (∀ W, Below w5.heap.size w5 W → Calls Tryz.prog 10 #[.agg #[.int .i64 st, .string (bs rs), .int .i64 minor, .slice Ao no co]] W fun x w' => ∃ A' n' c', x = .returned (.slice A' n' c') ∧ OwnF w' W.heap.size (.slice A' n' c') (Val.askL l) ∧ Below W.heap.size W w') := Lib.hid fun W hb => ask_p st rs minor Ao no co l W (hA1.step hb) hno hls
  have H2 : Hid (∀ W, Below w5.heap.size w5 W → Calls Tryz.prog 11 #[.agg #[.int .i64 st, .string (bs rs), .int .i64 minor, .slice A n c]] W fun x w' => ∃ A' n' c', x = .returned (.slice A' n' c') ∧ OwnF w' W.heap.size (.slice A' n' c') (Val.askL l) ∧ Below W.heap.size W w') := Lib.hid fun W hb => ask_r st rs minor A n c l W (hl.step hb) hn hls
  have H4 : Hid (∀ W, Below w5.heap.size w5 W → Calls Tryz.prog 12 #[.agg #[.int .i64 st, .string (bs rs), .int .i64 minor, .slice Ao no co], .agg #[.int .i64 st, .string (bs rs), .int .i64 minor, .slice A n c]] W fun x w' => x = .returned (.bool true) ∧ Below W.heap.size W w') := Lib.hid fun W hb => sameResponse_any st rs minor Ao A no co n c l W (hA1.step hb) (hl.step hb) hno hn
  clear hl hA1 hls hf
  generalize Val.askL l = R at *
  refine DA.wp_region (n := 11) (V := fun i u => match i with | 0 => u = .agg #[.int .i64 st, .string (bs rs), .int .i64 minor, .slice Ao no co] | 1 => ∃ A1 n1 c1, u = .slice A1 n1 c1 | 2 => u = .agg #[.int .i64 st, .string (bs rs), .int .i64 minor, .slice A n c] | 3 => ∃ A1 n1 c1, u = .slice A1 n1 c1 | 6 => u = .agg #[.int .i64 st, .string (bs rs), .int .i64 minor, .slice Ao no co] | 7 => u = .agg #[.int .i64 st, .string (bs rs), .int .i64 minor, .slice A n c] | _ => u = .bool true) (S := SVA w5 R) (by kernel_rfl) rfl (SVA.start rfl) ?_
  refine' DA.Det.takeE (i := 0) (v := _) rfl (fun _ => Iff.rfl) (by kernel_rfl) (by kernel_rfl) (by kernel_rfl) (DA.YS.pure rfl rfl ?rp0 ?sp0) ?np0
  case rp0 => intro a' L W hS; obtain ⟨j0, j1, j2, j3, -⟩ := row_facts4 (row_keep hr5 hS.1); go_simp; first | rfl | skip
  case sp0 => exact fun a' L W _ h => h.other (by decide) (by decide) (by simp) (by simp) (Below.refl _ _)
  try simp only [Act.put, List.setIfInBounds_toArray, List.set_cons_zero, List.set_cons_succ]
  refine' DA.Det.takeL (i := 1) rfl ⟨_, none, 0, 0, rfl⟩ (by kernel_rfl) (by kernel_rfl) (by kernel_rfl) (DA.YS.call (f := _) (args := _) rfl ?rp1 ?cp1) ?np1
  case rp1 => intro W; go_simp; constructor <;> rfl
  case cp1 =>
    intro a' L W hL hS
    refine (H1.out W hS.1).mono ?_
    rintro e w9 ⟨A9, n9, c9, rfl, hA9, hb9⟩
    exact ⟨_, rfl, ⟨A9, n9, c9, rfl⟩, hS.one hb9 hA9.rd⟩
  rintro v1 ⟨A1, n1, c1, rfl⟩
  try simp only [Act.put, List.setIfInBounds_toArray, List.set_cons_zero, List.set_cons_succ]
  refine' DA.Det.takeE (i := 2) (v := _) rfl (fun _ => Iff.rfl) (by kernel_rfl) (by kernel_rfl) (by kernel_rfl) (DA.YS.pure rfl rfl ?rp2 ?sp2) ?np2
  case rp2 => intro a' L W hS; obtain ⟨k0, k1, k2, k3, -⟩ := row_facts4 (row_keep hr1 hS.1); go_simp; first | rfl | skip
  case sp2 => exact fun a' L W _ h => h.other (by decide) (by decide) (by simp) (by simp) (Below.refl _ _)
  try simp only [Act.put, List.setIfInBounds_toArray, List.set_cons_zero, List.set_cons_succ]
  refine' DA.Det.takeL (i := 3) rfl ⟨_, none, 0, 0, rfl⟩ (by kernel_rfl) (by kernel_rfl) (by kernel_rfl) (DA.YS.call (f := _) (args := _) rfl ?rp3 ?cp3) ?np3
  case rp3 => intro W; go_simp; constructor <;> rfl
  case cp3 =>
    intro a' L W hL hS
    refine (H2.out W hS.1).mono ?_
    rintro e w9 ⟨A9, n9, c9, rfl, hA9, hb9⟩
    exact ⟨_, rfl, ⟨A9, n9, c9, rfl⟩, hS.two hb9 hA9.rd⟩
  rintro v3 ⟨A3, n3, c3, rfl⟩
  try simp only [Act.put, List.setIfInBounds_toArray, List.set_cons_zero, List.set_cons_succ]
  refine' DA.Det.takeE (i := 4) (v := _) rfl (fun _ => Iff.rfl) (by kernel_rfl) (by kernel_rfl) (by kernel_rfl) (callE (f := _) (args := _) rfl ?rp4 ?cp4) ?np4
  case rp4 => intro W; go_simp; constructor <;> rfl
  case cp4 =>
    intro a' L W he hL hd hS
    have h1 : L.getD 1 false = true := by have := hd ⟨1, .data⟩ (by simp) (by kernel_rfl); exact this
    have h3 : L.getD 3 false = true := by have := hd ⟨3, .data⟩ (by simp) (by kernel_rfl); exact this
    have k1 : a'.tmps[9]? = some (.slice A1 n1 c1) := slot_val (he (.tmp 9) (by simp [Op.operands, Call.operands])) (by simp [undef])
    have k3 : a'.tmps[11]? = some (.slice A3 n3 c3) := slot_val (he (.tmp 11) (by simp [Op.operands, Call.operands])) (by simp [undef])
    obtain ⟨B1, p1, e1, f1, f3⟩ := hS.2.2.1 h1
    obtain ⟨B3, p3, e3, g1, g3⟩ := hS.2.2.2 h3
    rw [k1] at f1
    rw [k3] at g1
    simp at f1 g1
    obtain ⟨rfl, rfl, rfl⟩ := f1
    obtain ⟨rfl, rfl, rfl⟩ := g1
    have hx1 : n1 ≤ 140737488355328 := by have := HAL.out; have := f3.1; omega
    have hx3 : n3 ≤ 140737488355328 := by have := HAL.out; have := g3.1; omega
    refine (sameFields_any A1 A3 n1 n3 c1 c3 R R W f3 g3 hx1 hx3).mono ?_
    rintro e w9 ⟨rfl, hb9⟩
    refine ⟨_, rfl, ?_, hS.other (by decide) (by decide) (by simp) (by simp) hb9⟩
    show Value.bool (R == R) = .bool true
    simp
  try simp only [Act.put, List.setIfInBounds_toArray, List.set_cons_zero, List.set_cons_succ]
  refine' DA.Det.takeE (i := 5) (v := _) rfl (fun _ => Iff.rfl) (by kernel_rfl) (by kernel_rfl) (by kernel_rfl) (DA.YS.pure rfl rfl ?rp5 ?sp5) ?np5
  case rp5 => intro a' L W hS; go_simp; first | rfl | skip
  case sp5 => exact fun a' L W _ h => h.other (by decide) (by decide) (by simp) (by simp) (Below.refl _ _)
  try simp only [Act.put, List.setIfInBounds_toArray, List.set_cons_zero, List.set_cons_succ]
  refine' DA.Det.takeE (i := 6) (v := _) rfl (fun _ => Iff.rfl) (by kernel_rfl) (by kernel_rfl) (by kernel_rfl) (DA.YS.pure rfl rfl ?rp6 ?sp6) ?np6
  case rp6 => intro a' L W hS; obtain ⟨j0, j1, j2, j3, -⟩ := row_facts4 (row_keep hr5 hS.1); go_simp; first | rfl | skip
  case sp6 => exact fun a' L W _ h => h.other (by decide) (by decide) (by simp) (by simp) (Below.refl _ _)
  try simp only [Act.put, List.setIfInBounds_toArray, List.set_cons_zero, List.set_cons_succ]
  refine' DA.Det.takeE (i := 7) (v := _) rfl (fun _ => Iff.rfl) (by kernel_rfl) (by kernel_rfl) (by kernel_rfl) (DA.YS.pure rfl rfl ?rp7 ?sp7) ?np7
  case rp7 => intro a' L W hS; obtain ⟨k0, k1, k2, k3, -⟩ := row_facts4 (row_keep hr1 hS.1); go_simp; first | rfl | skip
  case sp7 => exact fun a' L W _ h => h.other (by decide) (by decide) (by simp) (by simp) (Below.refl _ _)
  try simp only [Act.put, List.setIfInBounds_toArray, List.set_cons_zero, List.set_cons_succ]
  refine' DA.Det.takeE (i := 8) (v := _) rfl (fun _ => Iff.rfl) (by kernel_rfl) (by kernel_rfl) (by kernel_rfl) (DA.YS.call (f := _) (args := _) rfl ?rp8 ?cp8) ?np8
  case rp8 => intro W; go_simp; constructor <;> rfl
  case cp8 =>
    intro a' L W hL hS
    refine (H4.out W hS.1).mono ?_
    rintro e w9 ⟨rfl, hb9⟩
    exact ⟨_, rfl, rfl, hS.other (by decide) (by decide) (by simp) (by simp) hb9⟩
  try simp only [Act.put, List.setIfInBounds_toArray, List.set_cons_zero, List.set_cons_succ]
  refine' DA.Det.takeE (i := 9) (v := _) rfl (fun _ => Iff.rfl) (by kernel_rfl) (by kernel_rfl) (by kernel_rfl) (DA.YS.pure rfl rfl ?rp9 ?sp9) ?np9
  case rp9 => intro a' L W hS; go_simp; first | rfl | skip
  case sp9 => exact fun a' L W _ h => h.other (by decide) (by decide) (by simp) (by simp) (Below.refl _ _)
  try simp only [Act.put, List.setIfInBounds_toArray, List.set_cons_zero, List.set_cons_succ]
  refine' DA.Det.takeE (i := 10) (v := _) rfl (fun _ => Iff.rfl) (by kernel_rfl) (by kernel_rfl) (by kernel_rfl) (DA.YS.pure rfl rfl ?rp10 ?sp10) ?np10
  case rp10 => intro a' L W hS; go_simp; first | rfl | skip
  case sp10 => exact fun a' L W _ h => h.other (by decide) (by decide) (by simp) (by simp) (Below.refl _ _)
  try simp only [Act.put, List.setIfInBounds_toArray, List.set_cons_zero, List.set_cons_succ]
  refine DA.Det.done (by kernel_rfl) (fun W hS => ?_) _
  have hbW := bnext hb0 hS.1 hb0.size
  clear hS
  go_wp2
  go_ret
  exact ⟨rfl, hbW⟩

theorem own : ownKnob Tryz.prog.godebug = none := by kernel_rfl
theorem contract (H : Type) (enc : TypeId × Value → H) (W : World) (base : Nat) (args : Array Value) (ds gs : List (DataW H)) (before : List MemPlace)
    (hval : ∀ (j : Nat) t v, Tryz.f3.params[j]? = some t → args[j]? = some v → Value.okWide Tryz.prog W .any base t v)
    (hW : DataW.Whole enc Tryz.prog Tryz.f3.params.toList Rows.validAsksSpec.vars false W args.toList ds gs before) (hk : Rows.uptoSmall H (ds ++ gs) = true) :
    Calls Tryz.prog 3 args W fun e W' => ∃ v, e = .returned v ∧ Rows.validAsksSpec.post enc Tryz.prog Tryz.f3 false true false false W args v W' := by
  have hW' := hW
  obtain ⟨p, q, hA0, hV, rfl, hfz, hnd⟩ := hW
  have hA : DataW.TrodAll enc Tryz.prog W 0 (fun _ => true) true Tryz.f3.params.toList args.toList ds p := hA0
  rw [Tryz.params3] at hA hval
  obtain ⟨v0, vs0, d0, ds0, p0, q0, hargs, rfl, rfl, h0, r0⟩ := trodAll_cons hA
  obtain ⟨rfl, rfl, rfl⟩ := trodAll_nil r0
  obtain rfl : args = #[v0] := by cases args; simp_all
  obtain ⟨rfl, rfl⟩ := trodVars_none hV
  have hall := bulks.bound hk
  simp only [List.append_nil, Rows.uptoBulkAll] at hall
  have hb0 : Rows.uptoBulk d0 ≤ 1048576 := by omega
  clear hall
  obtain ⟨st0, rs0, x0, A0, n0, c0, l0, rfl, hr0, hn0, hf0, hc0, hd0, hs0, ht0⟩ := opResp (hval 0 24 v0 rfl rfl) h0 hb0
  clear hA0
  refine (walk W st0 hs0 ht0 rs0 x0 A0 n0 c0 l0 hr0 hn0 hf0 hc0 hd0).mono fun e W' ⟨he, hg⟩ => ?_
  subst he
  exact ⟨_, rfl, post_of_below (pa := p0 ++ ([])) (pv := []) hW' (fun _ _ _ => (trodAll_cons_mk (shut_bool Tryz.underlying4 _) trodAll_mk0)) (fun sp hsp => (trodAll_cons_mk (arg_stays laidOut (by kernel_rfl) (of_decide_eq_true (by kernel_rfl)) h0 hg (fun x hx => hW'.lt x (by simp [hx])) sp (fun x hx => hsp x (by simp [hx]))) trodAll_mk0)) (fun _ _ => rfl) rfl
    hg (ok_one (by kernel_rfl) rfl (okWide_bool_mk Tryz.underlying4 _))⟩

/-- A world for the witness: the settled one, the listed variables holding what the program lays. -/
noncomputable def laidWorld (os : Os) : World :=
  { (World.holding Tryz.prog os ⟨#[.cells #[.string ⟨#[118, 97, 108, 117, 101, 32, 111, 117, 116, 32, 111, 102, 32, 114, 97, 110, 103, 101]⟩] 144, .cells #[.string ⟨#[105, 110, 118, 97, 108, 105, 100, 32, 115, 121, 110, 116, 97, 120]⟩] 144], #[], []⟩) with heap := ((((((World.holding Tryz.prog os ⟨#[.cells #[.string ⟨#[118, 97, 108, 117, 101, 32, 111, 117, 116, 32, 111, 102, 32, 114, 97, 110, 103, 101]⟩] 144, .cells #[.string ⟨#[105, 110, 118, 97, 108, 105, 100, 32, 115, 121, 110, 116, 97, 120]⟩] 144], #[], []⟩).heap.modify 6 fun
      | .cells _ t frozen => .cells #[.int .u8 0, .int .u8 1, .int .u8 28, .int .u8 2, .int .u8 29, .int .u8 14, .int .u8 24, .int .u8 3, .int .u8 30, .int .u8 22, .int .u8 20, .int .u8 15, .int .u8 25, .int .u8 17, .int .u8 4, .int .u8 8, .int .u8 31, .int .u8 27, .int .u8 13, .int .u8 23, .int .u8 21, .int .u8 19, .int .u8 16, .int .u8 7, .int .u8 26, .int .u8 12, .int .u8 18, .int .u8 6, .int .u8 11, .int .u8 5, .int .u8 10, .int .u8 9] t frozen
      | o => o).modify 7 fun
      | .cells _ t frozen => .cells #[.int .u8 0, .int .u8 1, .int .u8 56, .int .u8 2, .int .u8 57, .int .u8 49, .int .u8 28, .int .u8 3, .int .u8 61, .int .u8 58, .int .u8 42, .int .u8 50, .int .u8 38, .int .u8 29, .int .u8 17, .int .u8 4, .int .u8 62, .int .u8 47, .int .u8 59, .int .u8 36, .int .u8 45, .int .u8 43, .int .u8 51, .int .u8 22, .int .u8 53, .int .u8 39, .int .u8 33, .int .u8 30, .int .u8 24, .int .u8 18, .int .u8 12, .int .u8 5, .int .u8 63, .int .u8 55, .int .u8 48, .int .u8 27, .int .u8 60, .int .u8 41, .int .u8 37, .int .u8 16, .int .u8 46, .int .u8 35, .int .u8 44, .int .u8 21, .int .u8 52, .int .u8 32, .int .u8 23, .int .u8 11, .int .u8 54, .int .u8 26, .int .u8 40, .int .u8 15, .int .u8 34, .int .u8 20, .int .u8 31, .int .u8 10, .int .u8 25, .int .u8 14, .int .u8 19, .int .u8 9, .int .u8 13, .int .u8 8, .int .u8 7, .int .u8 6] t frozen
      | o => o).modify 5 fun
      | .cells _ t frozen => .cells #[.int .u64 1, .int .u64 10, .int .u64 100, .int .u64 1000, .int .u64 10000, .int .u64 100000, .int .u64 1000000, .int .u64 10000000, .int .u64 100000000, .int .u64 1000000000, .int .u64 10000000000, .int .u64 100000000000, .int .u64 1000000000000, .int .u64 10000000000000, .int .u64 100000000000000, .int .u64 1000000000000000, .int .u64 10000000000000000, .int .u64 100000000000000000, .int .u64 1000000000000000000, .int .u64 10000000000000000000] t frozen
      | o => o).modify 2 fun
      | .cells _ t frozen => .cells #[.iface 142 (.pointer (some ⟨(World.settled Tryz.prog os).heap.size + 0, 0, none⟩))] t frozen
      | o => o).modify 1 fun
      | .cells _ t frozen => .cells #[.iface 142 (.pointer (some ⟨(World.settled Tryz.prog os).heap.size + 1, 0, none⟩))] t frozen
      | o => o) }
theorem laid_met (os : Os) : laidMet Tryz.prog Rows.validAsksUptoRow.laid ((laidWorld os).forCall (fun _ _ => 0) ⟨#[], #[.agg #[.int .i64 0, .string ⟨#[]⟩, .int .i64 0, .slice none 0 0]], []⟩).memory :=
  laidMet_of_run' 8 (by kernel_rfl) (by kernel_rfl)

theorem reads (os : Os) {H : Type} (enc : TypeId × Value → H) : ∃ places, DataW.whole enc Tryz.prog ((laidWorld os).forCall (fun _ _ => 0) ⟨#[], #[.agg #[.int .i64 0, .string ⟨#[]⟩, .int .i64 0, .slice none 0 0]], []⟩).memory Tryz.f3.params.toList Rows.validAsksSpec.vars false #[.agg #[.int .i64 0, .string ⟨#[]⟩, .int .i64 0, .slice none 0 0]].toList 8 = some ([.agg [.lit (.int .i64 0), .lit (.string []), .lit (.int .i64 0), .nil]], [], places) :=
  ⟨[], by kernel_rfl⟩

set_option maxRecDepth 100000 in
theorem liftedUpto (os : Os) (started : os.Started) (H : Type) (enc : TypeId × Value → H) (F : Stop.Interp) :
    ReturnsInHanded {} Tryz.checked os 3 .any ((Rows.OpenSpec.upto Rows.validAsksSpec).preRow enc Tryz.prog Tryz.f3 Rows.validAsksUptoRow.domain false Rows.validAsksUptoRow.laid) (((Rows.OpenSpec.upto Rows.validAsksSpec).at F).post enc Tryz.prog Tryz.f3 false true false false) := by
  obtain ⟨places, hx⟩ := reads os enc
  refine returnsInHanded_of_row (C := Tryz.checked) (s := Rows.OpenSpec.upto Rows.validAsksSpec) own started (by kernel_rfl) Tryz.func3
    (witness_row_atRef (enc := enc) (C := Tryz.checked) false (laidWorld os) #[.agg #[.int .i64 0, .string ⟨#[]⟩, .int .i64 0, .slice none 0 0]] rfl (by kernel_rfl) (by kernel_rfl) (by kernel_rfl)
      (OpenSpec.preRow_of_cond 8 hx (by kernel_rfl) (fun k hk => by cases hk; kernel_rfl) (by kernel_rfl) (laid_met os))) ?_
  intro W base args ds gs before hval hW g1 hcond g2 g3 g4 g5
  exact contract H enc W base args ds gs before hval hW (hcond _ rfl)

theorem saidUpto : Rows.ValidAsksUptoSaid :=
  OpenClaim.holds_of_cond 3 Tryz.f3 rfl rfl rfl rfl rfl rfl rfl ⟨rfl, rfl, rfl, rfl, rfl⟩ rfl rfl rfl rfl rfl (by kernel_rfl) Tryz.func3 (by kernel_rfl)
    (of_decide_eq_true (by kernel_rfl)) (by unfold Func.isWrapper; first | (rw [if_pos (by decide +kernel)]; kernel_rfl) | (rw [if_neg (by decide +kernel)]; exact ⟨rfl, rfl⟩))
    (fun os started H enc _ F => by rw [OpenClaim.pre_eq_preRow]; exact liftedUpto os started H enc F)

theorem plain (f : FuncId) (fn : Func) (hf : Tryz.pinned.checked.prog.funcNamed "conduit/conduitlaw18.ValidAsks" = some f) (hfn : Tryz.pinned.checked.prog.funcs[f]? = some fn) :
    true = Tryz.pinned.checked.prog.looks [] ∧ ∀ (j : Nat) t, fn.params[j]? = some t → Tryz.pinned.checked.prog.wantsStandIn t = false := by
  obtain rfl : f = 3 := Option.some.inj ((show Tryz.prog.funcNamed "conduit/conduitlaw18.ValidAsks" = some 3 by kernel_rfl).symm.trans hf) |>.symm
  obtain rfl : fn = Tryz.f3 := (Option.some.inj (Tryz.func3.symm.trans hfn)).symm
  refine ⟨by kernel_rfl, fun j t ht => ?_⟩
  rw [Tryz.params3] at ht
  have hm := Array.mem_of_getElem? ht
  simp only [List.mem_toArray, List.mem_cons, List.not_mem_nil, or_false] at hm
  rcases hm with rfl
  · exact (show Tryz.prog.wantsStandIn 24 = false by kernel_rfl)

theorem proved : Rows.ValidAsksUptoCardSaid :=
  Claim7.holds_tied_plain_at .later [] _ _ _ _ saidUpto (fun _ h => by cases h) (by kernel_rfl) (fun _ h => by cases h) validAsksUpto_row_tie rfl ⟨rfl, rfl⟩ (by kernel_rfl) rfl plain (by kernel_rfl)
end Go.Proofs.YtbigcdmkfcmegaaGreatDoor.validAsks
