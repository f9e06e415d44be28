import Derived.Test.YtfhkgbimnfjfhaaDoorCards
import Derived.Test.YtfhkgbimnfjfhaaDoorTie
import Derived.Test.YtfhkgbimnfjfhaaDoorSto
import Derived.Test.YtfhkgbimnfjfhaaDoorStoR
import Derived.Test.YtfhkgbimnfjfhaaDoorOpenR
import Derived.Test.YtfhkgbimnfjfhaaDoorBulk
import Derived.WalkKit
import Derived.ProofKit
import Derived.OpenShut
import Derived.JoinedCond
import Derived.Deep.DeepHandedRow
import Derived.Deep.DeepWitnessRowRef
import Derived.Lib.LaidTab
/- FreshRefuses: for every input within the second form's bound the law answers true and leaves its arguments as they were. Condition: the bulk of the arguments at most 1048576. -/
set_option linter.unusedVariables false
set_option linter.unusedSimpArgs false
set_option maxRecDepth 100000
namespace Go.Proofs.YtfhkgbimnfjfhaaDoor.freshRefuses
open Go.ChangeShapes Go.WideShapes Go.ChangeAt Go.RowKit

/-- An operation that calls, with what it looks at and what has come up. -/
theorem callE {P : Program} {md : Region.Mode} {ops : Array Oper} {V : Nat → Value → Prop} {S : Array Bool → Act → World → Prop} {i : Nat} {o : Oper} {a : Act} {f : FuncId} {args : Array Value} (hw : Region.wanted o (yielded ops a.tmps) = true)
    (hr : ∀ w, (execOp a.eval o).run P w = .ok (.enter f args) w)
    (hc : ∀ a' L w, (∀ x ∈ o.op.operands, a'.eval x = a.eval x) → L.getD i true = false → (∀ e ∈ o.after, Region.binds md e = true → L.getD e.on false = true) → S L a' w → Calls P f args w fun e w'' => ∃ v, e = .returned v ∧ V i v ∧ S (L.setIfInBounds i true) (a'.put o.dst v) w'') : DA.YS P md ops V S i o a :=
  .inl ⟨hw, fun a' L w he hl hd h => by rw [hr w]; exact hc a' L w he hl hd h⟩
theorem slot_val {a' : Act} {p : Nat} {v : Value} (h : a'.eval (.tmp p) = v) (hv : v ≠ undef) : a'.tmps[p]? = some v := by
  have h' : (a'.tmps[p]?).getD undef = v := by simpa [Act.eval] using h
  cases e : a'.tmps[p]? with
  | none => rw [e] at h'; exact absurd h'.symm hv
  | some x => rw [e] at h'; exact congrArg some h'
/-- The copies stand in slots 12 and 14. -/
def SC (w0 : World) (m t : List UInt8) (minor : Int) (l : List Fld) (st : Int) (rs : List UInt8) (minor' : Int) (l' : List Fld) (L : Array Bool) (a : Act) (W : World) : Prop :=
  Below w0.heap.size w0 W ∧ a.tmps.size = 58 ∧
  (L.getD 1 false = true → ∃ A n c, a.tmps[12]? = some (.agg #[.string (bs m), .string (bs t), .int .i64 minor, .slice A n c]) ∧ n ≤ 1048576 ∧ RdF W A n l) ∧
  (L.getD 3 false = true → ∃ A n c, a.tmps[14]? = some (.agg #[.int .i64 st, .string (bs rs), .int .i64 minor', .slice A n c]) ∧ n ≤ 1048576 ∧ RdF W A n l')
section
variable {w0 W W' : World} {m t : List UInt8} {minor : Int} {l : List Fld} {st : Int} {rs : List UInt8} {minor' : Int} {l' : List Fld} {L : Array Bool} {a : Act} {i : Nat} {dst : Option Tmp} {v : Value}
theorem SC.start (h : a.tmps.size = 58) {k : Nat} : SC w0 m t minor l st rs minor' l' (Array.replicate k false) a w0.drew :=
  ⟨(Below.refl _ _).drew, h, fun h => (by rw [DA.rep_getD] at h; cases h), fun h => (by rw [DA.rep_getD] at h; cases h)⟩
theorem SC.other (h1 : i ≠ 1) (h3 : i ≠ 3) (d1 : dst ≠ some 12) (d3 : dst ≠ some 14) (h : SC w0 m t minor l st rs minor' l' L a W) (hb : Below W.heap.size W W') : SC w0 m t minor l st rs minor' l' (L.setIfInBounds i true) (a.put dst v) W' := by
  obtain ⟨a1, a2, a3, a4⟩ := h
  refine ⟨bnext a1 hb a1.size, DA.put_size.trans a2, fun hp => ?_, fun hp => ?_⟩
  · rw [getD_set_ne false h1] at hp
    obtain ⟨A, n, c, e1, e2, e3⟩ := a3 hp
    exact ⟨A, n, c, (DA.put_get d1).trans e1, e2, e3.step hb⟩
  · rw [getD_set_ne false h3] at hp
    obtain ⟨A, n, c, e1, e2, e3⟩ := a4 hp
    exact ⟨A, n, c, (DA.put_get d3).trans e1, e2, e3.step hb⟩
theorem SC.one {A : Option Addr} {n c : Nat} (h : SC w0 m t minor l st rs minor' l' L a W) (hb : Below W.heap.size W W') (hn : n ≤ 1048576) (hr : RdF W' A n l) : SC w0 m t minor l st rs minor' l' (L.setIfInBounds 1 true) (a.put (some 12) (.agg #[.string (bs m), .string (bs t), .int .i64 minor, .slice A n c])) W' := by
  obtain ⟨a1, a2, a3, a4⟩ := h
  refine ⟨bnext a1 hb a1.size, DA.put_size.trans a2, fun hp => ⟨A, n, c, DA.put_self (by omega), hn, hr⟩, fun hp => ?_⟩
  rw [getD_set_ne false (by decide)] at hp
  obtain ⟨A, n, c, e1, e2, e3⟩ := a4 hp
  exact ⟨A, n, c, (DA.put_get (by simp)).trans e1, e2, e3.step hb⟩
theorem SC.two {A : Option Addr} {n c : Nat} (h : SC w0 m t minor l st rs minor' l' L a W) (hb : Below W.heap.size W W') (hn : n ≤ 1048576) (hr : RdF W' A n l') : SC w0 m t minor l st rs minor' l' (L.setIfInBounds 3 true) (a.put (some 14) (.agg #[.int .i64 st, .string (bs rs), .int .i64 minor', .slice A n c])) W' := by
  obtain ⟨a1, a2, a3, a4⟩ := h
  refine ⟨bnext a1 hb a1.size, DA.put_size.trans a2, fun hp => ?_, fun hp => ⟨A, n, c, DA.put_self (by omega), hn, hr⟩⟩
  rw [getD_set_ne false (by decide)] at hp
  obtain ⟨A, n, c, e1, e2, e3⟩ := a3 hp
  exact ⟨A, n, c, (DA.put_get (by simp)).trans e1, e2, e3.step hb⟩
end
set_option maxRecDepth 100000
set_option maxHeartbeats 4000000 in
theorem walk (w : World) (hM : MaxL w) (m t : List UInt8) (minor : Int) (A : Option Addr) (n c : Nat) (l : List Fld) (hA : RdF w A n l) (hn : n + 3 ≤ 1048576) (hf : ∀ f ∈ l, f.1.length ≤ 1048576 ∧ f.2.length ≤ 1048576) (hnc : n ≤ c) (hcm : c ≤ maxLen)
    (st : Int) (hs1 : -9223372036854775808 ≤ st) (hs2 : st ≤ 9223372036854775807) (rs : List UInt8) (minor' : Int) (A' : Option Addr) (n' c' : Nat) (l' : List Fld) (hA' : RdF w A' n' l') (hn' : n' + 3 ≤ 1048576) (hf' : ∀ f ∈ l', f.1.length ≤ 1048576 ∧ f.2.length ≤ 1048576) (hnc' : n' ≤ c') (hcm' : c' ≤ maxLen) :
    Calls Tryd.prog 4 #[reqV m t minor A n c, respV st rs minor' A' n' c'] w fun e w' => e = .returned (.bool true) ∧ Below w.heap.size w w' := by
  unfold reqV respV
  replace hn : n ≤ 1048576 := by omega
  replace hn' : n' ≤ 1048576 := by omega
  have hls : FlenS l := hf
  have hls' : FlenS l' := hf'
  have hal1 := alloc_below w (.cells #[.string (bs m), .string (bs t), .int .i64 minor, .slice A n c] 24)
  have hr1 := heap_alloc_new w (.cells #[.string (bs m), .string (bs t), .int .i64 minor, .slice A n c] 24)
  have hal2 := alloc_below (w.alloc (.cells #[.string (bs m), .string (bs t), .int .i64 minor, .slice A n c] 24)) (.cells #[.int .i64 st, .string (bs rs), .int .i64 minor', .slice A' n' c'] 26)
  have hb := bnext hal1 hal2 hal1.size
  have hr2 := heap_alloc_new (w.alloc (.cells #[.string (bs m), .string (bs t), .int .i64 minor, .slice A n c] 24)) (.cells #[.int .i64 st, .string (bs rs), .int .i64 minor', .slice A' n' c'] 26)
  rw [show (w.alloc (.cells #[.string (bs m), .string (bs t), .int .i64 minor, .slice A n c] 24)).heap.size = w.heap.size + 1 by simp] at hr2
  replace hr1 := row_keep hr1 hal2
  replace hA := hA.step hb
  replace hA' := hA'.step hb
  replace hM := maxl_b hM hb
  clear hal1 hal2 hf hf'
  have hst : -9223372036854775808 ≤ st ∧ st ≤ 9223372036854775807 := ⟨hs1, hs2⟩
  go_enter Tryd.func4, Tryd.ntmps4
  go_upto_region 1 with fail
  generalize (w.alloc (.cells #[.string (bs m), .string (bs t), .int .i64 minor, .slice A n c] 24)).alloc (.cells #[.int .i64 st, .string (bs rs), .int .i64 minor', .slice A' n' c'] 26) = w2 at *
  have hS0 := storable_any Ctl.getN [] 0 none 0 0 [] 200 [] 0 none 0 0 [] w2 hM (RdF.nil _ _) (by omega) (fun f hf => by cases hf) (RdF.nil _ _) (by omega) (fun f hf => by cases hf) (by omega)
  rw [Ctl.stor_one] at hS0
  unfold reqV respV at hS0
  go_wp2_with fail
  refine hS0.mono ?_
  rintro e w3 ⟨rfl, hb3⟩
  replace hr1 := row_keep hr1 hb3
  replace hr2 := row_keep hr2 hb3
  replace hA := hA.step hb3
  replace hA' := hA'.step hb3
  replace hM := maxl_b hM hb3
  replace hb := bnext hb hb3 hb.size
  clear hb3 hS0
  have HI : Hid (Ctl.storL m l st l' = true → (m == Ctl.getN) = true ∧ (Ctl.ctlL l).noStore = false ∧ (Ctl.ctlL l').noStore = false ∧ (Ctl.ctlL l').priv = false ∧ st ≠ 206 ∧ st ≠ 304 ∧ 200 ≤ st) := Lib.hid Ctl.stor_inv
  have hCS := fun (A1 : Option Addr) (n1 c1 : Nat) (A2 : Option Addr) (n2 c2 : Nat) (W : World) (hb : Below w3.heap.size w3 W) (h1 : RdF W A1 n1 l) (h2 : n1 ≤ 1048576) (h3 : RdF W A2 n2 l') (h4 : n2 ≤ 1048576) => storable_any m t minor A1 n1 c1 l st rs minor' A2 n2 c2 l' W (maxl_b hM hb) h1 h2 hls h3 h4 hls' hst
  unfold reqV respV at hCS
  generalize Ctl.storL m l st l' = R at *
  have HCS := Lib.hid hCS
  clear hCS
  go_upto_region 3 with fail
  go_cut [16] (fun v wx => v = .bool (!R) ∧ Below w3.heap.size w3 wx)
  case first =>
    refine DA.wp_region (n := 6) (V := fun i u => match i with | 0 => u = .agg #[.string (bs m), .string (bs t), .int .i64 minor, .slice A n c] | 1 => ∃ A1 n1 c1, u = .agg #[.string (bs m), .string (bs t), .int .i64 minor, .slice A1 n1 c1] | 2 => u = .agg #[.int .i64 st, .string (bs rs), .int .i64 minor', .slice A' n' c'] | 3 => ∃ A1 n1 c1, u = .agg #[.int .i64 st, .string (bs rs), .int .i64 minor', .slice A1 n1 c1] | 4 => u = .bool R | _ => u = .bool (!R)) (S := SC w3 m t minor l st rs minor' l') (by kernel_rfl) rfl (SC.start rfl) ?_
    refine' DA.Det.takeE (i := 0) (v := _) rfl (fun _ => Iff.rfl) (by kernel_rfl) (by kernel_rfl) (by kernel_rfl) (DA.YS.pure rfl rfl ?rp0 ?sp0) ?np0
    case rp0 => intro a' L W hS; obtain ⟨k0, k1, k2, k3, -⟩ := row_facts4 (row_keep hr1 hS.1); go_simp; first | rfl | skip
    case sp0 => exact fun a' L W _ h => h.other (by decide) (by decide) (by simp) (by simp) (Below.refl _ _)
    try simp only [Act.put, List.setIfInBounds_toArray, List.set_cons_zero, List.set_cons_succ]
    refine' DA.Det.takeL (i := 1) rfl ⟨_, none, 0, 0, rfl⟩ (by kernel_rfl) (by kernel_rfl) (by kernel_rfl) (DA.YS.call (f := _) (args := _) rfl ?rp1 ?cp1) ?np1
    case rp1 => intro W; go_simp; constructor <;> rfl
    case cp1 =>
      intro a' L W hL hS
      refine (copyRequest_any m t minor A n c l W (hA.step hS.1) hn).mono ?_
      rintro e w9 ⟨A1, n1, c1, rfl, hA1, hb9⟩
      exact ⟨_, rfl, ⟨A1, n1, c1, rfl⟩, hS.one hb9 (by have := hA1.1; have := hA.1; omega) hA1⟩
    rintro v1 ⟨A1, n1, c1, rfl⟩
    try simp only [Act.put, List.setIfInBounds_toArray, List.set_cons_zero, List.set_cons_succ]
    refine' DA.Det.takeE (i := 2) (v := _) rfl (fun _ => Iff.rfl) (by kernel_rfl) (by kernel_rfl) (by kernel_rfl) (DA.YS.pure rfl rfl ?rp2 ?sp2) ?np2
    case rp2 => intro a' L W hS; obtain ⟨k0, k1, k2, k3, -⟩ := row_facts4 (row_keep hr2 hS.1); go_simp; first | rfl | skip
    case sp2 => exact fun a' L W _ h => h.other (by decide) (by decide) (by simp) (by simp) (Below.refl _ _)
    try simp only [Act.put, List.setIfInBounds_toArray, List.set_cons_zero, List.set_cons_succ]
    refine' DA.Det.takeL (i := 3) rfl ⟨_, none, 0, 0, rfl⟩ (by kernel_rfl) (by kernel_rfl) (by kernel_rfl) (DA.YS.call (f := _) (args := _) rfl ?rp3 ?cp3) ?np3
    case rp3 => intro W; go_simp; constructor <;> rfl
    case cp3 =>
      intro a' L W hL hS
      refine (copyResponse_any st rs minor' A' n' c' l' W (hA'.step hS.1) hn').mono ?_
      rintro e w9 ⟨A1, n1, c1, rfl, hA1, hb9⟩
      exact ⟨_, rfl, ⟨A1, n1, c1, rfl⟩, hS.two hb9 (by have := hA1.1; have := hA'.1; omega) hA1⟩
    rintro v3 ⟨A2, n2, c2, rfl⟩
    try simp only [Act.put, List.setIfInBounds_toArray, List.set_cons_zero, List.set_cons_succ]
    refine' DA.Det.takeE (i := 4) (v := _) rfl (fun _ => Iff.rfl) (by kernel_rfl) (by kernel_rfl) (by kernel_rfl) (callE (f := _) (args := _) rfl ?rp4 ?cp4) ?np4
    case rp4 => intro W; go_simp; constructor <;> rfl
    case cp4 =>
      intro a' L W he hL hd hS
      have h1 : L.getD 1 false = true := by have := hd ⟨1, .data⟩ (by simp) (by kernel_rfl); exact this
      have h3 : L.getD 3 false = true := by have := hd ⟨3, .data⟩ (by simp) (by kernel_rfl); exact this
      have k1 : a'.tmps[12]? = some (.agg #[.string (bs m), .string (bs t), .int .i64 minor, .slice A1 n1 c1]) := slot_val (he (.tmp 12) (by simp [Op.operands, Call.operands])) (by simp [undef])
      have k3 : a'.tmps[14]? = some (.agg #[.int .i64 st, .string (bs rs), .int .i64 minor', .slice A2 n2 c2]) := slot_val (he (.tmp 14) (by simp [Op.operands, Call.operands])) (by simp [undef])
      obtain ⟨B1, p1, e1, f1, f2, f3⟩ := hS.2.2.1 h1
      obtain ⟨B3, p3, e3, g1, g2, g3⟩ := hS.2.2.2 h3
      rw [k1] at f1
      rw [k3] at g1
      simp at f1 g1
      obtain ⟨rfl, rfl, rfl⟩ := f1
      obtain ⟨rfl, rfl, rfl⟩ := g1
      refine (HCS.out A1 n1 c1 A2 n2 c2 W hS.1 f3 f2 g3 g2).mono ?_
      rintro e w9 ⟨rfl, hb9⟩
      exact ⟨_, rfl, rfl, hS.other (by decide) (by decide) (by simp) (by simp) hb9⟩
    try simp only [Act.put, List.setIfInBounds_toArray, List.set_cons_zero, List.set_cons_succ]
    refine' DA.Det.takeE (i := 5) (v := _) rfl (fun _ => Iff.rfl) (by kernel_rfl) (by kernel_rfl) (by kernel_rfl) (DA.YS.pure rfl rfl ?rp5 ?sp5) ?np5
    case rp5 => intro a' L W hS; go_simp; first | rfl | skip
    case sp5 => exact fun a' L W _ h => h.other (by decide) (by decide) (by simp) (by simp) (Below.refl _ _)
    try simp only [Act.put, List.setIfInBounds_toArray, List.set_cons_zero, List.set_cons_succ]
    refine DA.Det.done (by kernel_rfl) (fun W hS => ?_) _
    have hbW := hS.1
    clear hS
    go_wp2
    go_meet
    case rel => exact ⟨rfl, hbW⟩
  case rest =>
    obtain ⟨rfl, hb4⟩ := hcut
    clear HCS
    replace hr1 := row_keep hr1 hb4
    replace hr2 := row_keep hr2 hb4
    replace hA := hA.step hb4
    replace hA' := hA'.step hb4
    replace hM := maxl_b hM hb4
    replace hb := bnext hb hb4 hb.size
    clear hb4
    cases hR : R with
    | false =>
      go_wp2
      go_ret
      exact ⟨rfl, hb⟩
    | true =>
      obtain ⟨i1, i2, i3, i4, i5, i6, i7⟩ := HI.out hR
      have e206 : (st != 206) = true := by simpa using i5
      have e304 : (st != 304) = true := by simpa using i6
      have I1 := Lib.hid i1
      have I2 := Lib.hid i2
      have I3 := Lib.hid i3
      have I4 := Lib.hid i4
      clear i1 i2 i3 i4
      obtain ⟨a0, a1, a2, a3, -⟩ := row_facts4 hr1
      go_wp2_with fail
      refine (copyFields_own A n c l _ hA (by omega)).mono ?_
      rintro e w5 ⟨A1, n1, c1, rfl, hA1, hb5⟩
      clear a0 a1 a2 a3
      replace hr1 := row_keep hr1 hb5
      replace hr2 := row_keep hr2 hb5
      replace hA := hA.step hb5
      replace hA' := hA'.step hb5
      replace hM := maxl_b hM hb5
      replace hb := bnext hb hb5 hb.size
      clear hb5
      have hn1 : n1 ≤ 1048576 := by have := hA1.rd.1; have := hA.1; omega
      go_wp2_with fail
      refine (cparse_any A1 n1 c1 l _ hM hA1.rd hn1 hls).mono ?_
      rintro e w6 ⟨rfl, hb6⟩
      unfold ctV
      generalize Ctl.ctlL l = cc at *
      go_upto_region 6 with fail
      replace hr1 := row_keep hr1 hb6
      replace hr2 := row_keep hr2 hb6
      replace hA := hA.step hb6
      replace hA' := hA'.step hb6
      replace hM := maxl_b hM hb6
      replace hb := bnext hb hb6 hb.size
      clear hb6 hA1 hn1
      have hal := alloc_below w6 (.cells #[.bool cc.noStore, .bool cc.noCache, .bool cc.priv, .bool cc.pub, .bool cc.must, .bool cc.only, .int .i64 cc.maxAge, .int .i64 cc.sMaxAge, .int .i64 cc.minFresh, .int .i64 cc.maxStale] 33)
      have hA3 := heap_alloc_new w6 (.cells #[.bool cc.noStore, .bool cc.noCache, .bool cc.priv, .bool cc.pub, .bool cc.must, .bool cc.only, .int .i64 cc.maxAge, .int .i64 cc.sMaxAge, .int .i64 cc.minFresh, .int .i64 cc.maxStale] 33)
      generalize w6.alloc (.cells #[.bool cc.noStore, .bool cc.noCache, .bool cc.priv, .bool cc.pub, .bool cc.must, .bool cc.only, .int .i64 cc.maxAge, .int .i64 cc.sMaxAge, .int .i64 cc.minFresh, .int .i64 cc.maxStale] 33) = w7 at *
      replace hr1 := row_keep hr1 hal
      replace hr2 := row_keep hr2 hal
      replace hA := hA.step hal
      replace hA' := hA'.step hal
      replace hM := maxl_b hM hal
      replace hb := bnext hb hal hb.size
      clear hal
      generalize w6.heap.size = gA at *
      obtain ⟨b0, b1, b2, b3, -⟩ := row_facts4 hr2
      go_wp2_with fail
      refine (copyFields_own A' n' c' l' _ hA' (by omega)).mono ?_
      rintro e w8 ⟨A1, n1, c1, rfl, hA1, hb5⟩
      clear b0 b1 b2 b3
      replace hr1 := row_keep hr1 hb5
      replace hr2 := row_keep hr2 hb5
      replace hA3 := row_keep hA3 hb5
      replace hA := hA.step hb5
      replace hA' := hA'.step hb5
      replace hM := maxl_b hM hb5
      replace hb := bnext hb hb5 hb.size
      clear hb5
      have hn1 : n1 ≤ 1048576 := by have := hA1.rd.1; have := hA'.1; omega
      go_wp2_with fail
      refine (cparse_any A1 n1 c1 l' _ hM hA1.rd hn1 hls').mono ?_
      rintro e w9 ⟨rfl, hb6⟩
      unfold ctV
      generalize Ctl.ctlL l' = dd at *
      go_upto_region 7 with fail
      replace hr1 := row_keep hr1 hb6
      replace hr2 := row_keep hr2 hb6
      replace hA3 := row_keep hA3 hb6
      replace hA := hA.step hb6
      replace hA' := hA'.step hb6
      replace hM := maxl_b hM hb6
      replace hb := bnext hb hb6 hb.size
      clear hb6 hA1 hn1
      have hal := alloc_below w9 (.cells #[.bool dd.noStore, .bool dd.noCache, .bool dd.priv, .bool dd.pub, .bool dd.must, .bool dd.only, .int .i64 dd.maxAge, .int .i64 dd.sMaxAge, .int .i64 dd.minFresh, .int .i64 dd.maxStale] 33)
      have hB3 := heap_alloc_new w9 (.cells #[.bool dd.noStore, .bool dd.noCache, .bool dd.priv, .bool dd.pub, .bool dd.must, .bool dd.only, .int .i64 dd.maxAge, .int .i64 dd.sMaxAge, .int .i64 dd.minFresh, .int .i64 dd.maxStale] 33)
      generalize w9.alloc (.cells #[.bool dd.noStore, .bool dd.noCache, .bool dd.priv, .bool dd.pub, .bool dd.must, .bool dd.only, .int .i64 dd.maxAge, .int .i64 dd.sMaxAge, .int .i64 dd.minFresh, .int .i64 dd.maxStale] 33) = w10 at *
      replace hr1 := row_keep hr1 hal
      replace hr2 := row_keep hr2 hal
      replace hA3 := row_keep hA3 hal
      replace hA := hA.step hal
      replace hA' := hA'.step hal
      replace hM := maxl_b hM hal
      replace hb := bnext hb hal hb.size
      clear hal
      generalize w9.heap.size = gB at *
      obtain ⟨a0, a1, a2, a3, -⟩ := row_facts4 hr1
      obtain ⟨b0, b1, b2, b3, -⟩ := row_facts4 hr2
      obtain ⟨x0, x1, x2, x3, x4, x5, x6, x7, x8, x9, -⟩ := row_facts10 hA3
      obtain ⟨y0, y1, y2, y3, y4, y5, y6, y7, y8, y9, -⟩ := row_facts10 hB3
      rw [I2.out] at x0
      rw [I3.out] at y0
      rw [I4.out] at y2
      have i1 := I1.out
      go_wp2
      go_ret
      exact ⟨rfl, hb⟩

theorem own : ownKnob Tryd.prog.godebug = none := by kernel_rfl
theorem contract (H : Type) (enc : TypeId × Value → H) (W : World) (base : Nat) (args : Array Value) (ds gs : List (DataW H)) (before : List MemPlace)
    (hval : ∀ (j : Nat) t v, Tryd.f4.params[j]? = some t → args[j]? = some v → Value.okWide Tryd.prog W .any base t v)
    (hW : DataW.Whole enc Tryd.prog Tryd.f4.params.toList Rows.freshRefusesSpec.vars false W args.toList ds gs before) (hk : Rows.uptoSmall H (ds ++ gs) = true) (hmax : MaxL W) :
    Calls Tryd.prog 4 args W fun e W' => ∃ v, e = .returned v ∧ Rows.freshRefusesSpec.post enc Tryd.prog Tryd.f4 false true false false W args v W' := by
  have hW' := hW
  obtain ⟨p, q, hA0, hV, rfl, hfz, hnd⟩ := hW
  have hA : DataW.TrodAll enc Tryd.prog W 0 (fun _ => true) true Tryd.f4.params.toList args.toList ds p := hA0
  rw [Tryd.params4] at hA hval
  obtain ⟨v0, vs0, d0, ds0, p0, q0, hargs, rfl, rfl, h0, r0⟩ := trodAll_cons hA
  obtain ⟨v1, vs1, d1, ds1, p1, q1, rfl, rfl, rfl, h1, r1⟩ := trodAll_cons r0
  obtain ⟨rfl, rfl, rfl⟩ := trodAll_nil r1
  obtain rfl : args = #[v0, v1] := by cases args; simp_all
  obtain ⟨rfl, rfl⟩ := trodVars_none hV
  have hall := bulks.bound hk
  simp only [List.append_nil, Rows.uptoBulkAll] at hall
  have hb0 : Rows.uptoBulk d0 ≤ 1048576 := by omega
  have hb1 : Rows.uptoBulk d1 ≤ 1048576 := by omega
  clear hall
  obtain ⟨m0, t0, x0, A0, n0, c0, l0, rfl, hr0, hn0, hf0, hc0, hd0⟩ := opReq (hval 0 24 v0 rfl rfl) h0 hb0
  obtain ⟨st1, rs1, x1, A1, n1, c1, l1, rfl, hr1, hn1, hf1, hc1, hd1, hs1, ht1⟩ := opResp (hval 1 26 v1 rfl rfl) h1 hb1
  clear hA0
  refine (walk W hmax m0 t0 x0 A0 n0 c0 l0 hr0 hn0 hf0 hc0 hd0 st1 hs1 ht1 rs1 x1 A1 n1 c1 l1 hr1 hn1 hf1 hc1 hd1).mono fun e W' ⟨he, hg⟩ => ?_
  subst he
  exact ⟨_, rfl, post_of_below (pa := p0 ++ (p1 ++ ([]))) (pv := []) hW' (fun _ _ _ => (trodAll_cons_mk (shut_bool Tryd.underlying4 _) trodAll_mk0)) (fun sp hsp => (trodAll_cons_mk (arg_stays laidOut (by kernel_rfl) (of_decide_eq_true (by kernel_rfl)) h0 hg (fun x hx => hW'.lt x (by simp [hx])) sp (fun x hx => hsp x (by simp [hx]))) (trodAll_cons_mk (arg_stays laidOut (by kernel_rfl) (of_decide_eq_true (by kernel_rfl)) h1 hg (fun x hx => hW'.lt x (by simp [hx])) sp (fun x hx => hsp x (by simp [hx]))) trodAll_mk0))) (fun _ _ => rfl) rfl
    hg (ok_one (by kernel_rfl) rfl (okWide_bool_mk Tryd.underlying4 _))⟩

/-- A world for the witness: the settled one, the listed variables holding what the program lays. -/
noncomputable def laidWorld (os : Os) : World :=
  { (World.holding Tryd.prog os ⟨#[], #[], []⟩) with heap := (((World.holding Tryd.prog os ⟨#[], #[], []⟩).heap.modify 2 fun
      | .cells _ t frozen => .cells #[.int .u8 128, .int .u8 191, .int .u8 160, .int .u8 191, .int .u8 128, .int .u8 159, .int .u8 144, .int .u8 191, .int .u8 128, .int .u8 143, .int .u8 0, .int .u8 0, .int .u8 0, .int .u8 0, .int .u8 0, .int .u8 0, .int .u8 0, .int .u8 0, .int .u8 0, .int .u8 0, .int .u8 0, .int .u8 0, .int .u8 0, .int .u8 0, .int .u8 0, .int .u8 0, .int .u8 0, .int .u8 0, .int .u8 0, .int .u8 0, .int .u8 0, .int .u8 0] t frozen
      | o => o).modify 1 fun
      | .cells _ t frozen => .cells (Go.Pinned.utf8FirstZ.map fun (n : Nat) => Value.int .u8 (n : Int)).toArray t frozen
      | o => o) }
theorem laid_met (os : Os) : laidMet Tryd.prog Rows.freshRefusesUptoRow.laid ((laidWorld os).forCall (fun _ _ => 0) ⟨#[], #[.agg #[.string ⟨#[]⟩, .string ⟨#[]⟩, .int .i64 0, .slice none 0 0], .agg #[.int .i64 0, .string ⟨#[]⟩, .int .i64 0, .slice none 0 0]], []⟩).memory :=
  laidMet_of_run' 8 (by kernel_rfl) (by kernel_rfl)

theorem reads (os : Os) {H : Type} (enc : TypeId × Value → H) : ∃ places, DataW.whole enc Tryd.prog ((laidWorld os).forCall (fun _ _ => 0) ⟨#[], #[.agg #[.string ⟨#[]⟩, .string ⟨#[]⟩, .int .i64 0, .slice none 0 0], .agg #[.int .i64 0, .string ⟨#[]⟩, .int .i64 0, .slice none 0 0]], []⟩).memory Tryd.f4.params.toList Rows.freshRefusesSpec.vars false #[.agg #[.string ⟨#[]⟩, .string ⟨#[]⟩, .int .i64 0, .slice none 0 0], .agg #[.int .i64 0, .string ⟨#[]⟩, .int .i64 0, .slice none 0 0]].toList 8 = some ([.agg [.lit (.string []), .lit (.string []), .lit (.int .i64 0), .nil], .agg [.lit (.int .i64 0), .lit (.string []), .lit (.int .i64 0), .nil]], [], places) :=
  ⟨[], by kernel_rfl⟩

set_option maxRecDepth 100000 in
theorem liftedUpto (os : Os) (started : os.Started) (H : Type) (enc : TypeId × Value → H) (F : Stop.Interp) :
    ReturnsInHanded {} Tryd.checked os 4 .any ((Rows.OpenSpec.upto Rows.freshRefusesSpec).preRow enc Tryd.prog Tryd.f4 Rows.freshRefusesUptoRow.domain false Rows.freshRefusesUptoRow.laid) (((Rows.OpenSpec.upto Rows.freshRefusesSpec).at F).post enc Tryd.prog Tryd.f4 false true false false) := by
  obtain ⟨places, hx⟩ := reads os enc
  refine returnsInHanded_of_row (C := Tryd.checked) (s := Rows.OpenSpec.upto Rows.freshRefusesSpec) own started (by kernel_rfl) Tryd.func4
    (witness_row_at (enc := enc) (C := Tryd.checked) false (laidWorld os) #[.agg #[.string ⟨#[]⟩, .string ⟨#[]⟩, .int .i64 0, .slice none 0 0], .agg #[.int .i64 0, .string ⟨#[]⟩, .int .i64 0, .slice none 0 0]] rfl (by kernel_rfl) (by kernel_rfl) (by kernel_rfl)
      (OpenSpec.preRow_of_cond 8 hx (by kernel_rfl) (fun k hk => by cases hk; kernel_rfl) (by kernel_rfl) (laid_met os))) ?_
  intro W base args ds gs before hval hW g1 hcond g2 g3 g4 g5
  exact contract H enc W base args ds gs before hval hW (hcond _ rfl) (by first | exact maxl_of g4 | exact maxl_of g3 | exact maxl_of g2 | exact maxl_of g5 | exact maxl_of g1)

theorem saidUpto : Rows.FreshRefusesUptoSaid :=
  OpenClaim.holds_of_cond 4 Tryd.f4 rfl rfl rfl rfl rfl rfl rfl ⟨rfl, rfl, rfl, rfl, rfl⟩ rfl rfl rfl rfl rfl (by kernel_rfl) Tryd.func4 (by kernel_rfl)
    (of_decide_eq_true (by kernel_rfl)) (by unfold Func.isWrapper; first | (rw [if_pos (by decide +kernel)]; kernel_rfl) | (rw [if_neg (by decide +kernel)]; exact ⟨rfl, rfl⟩))
    (fun os started H enc _ F => by rw [OpenClaim.pre_eq_preRow]; exact liftedUpto os started H enc F)

theorem plain (f : FuncId) (fn : Func) (hf : Tryd.pinned.checked.prog.funcNamed "conduit/conduitlaw16.FreshRefuses" = some f) (hfn : Tryd.pinned.checked.prog.funcs[f]? = some fn) :
    false = Tryd.pinned.checked.prog.looks [] ∧ ∀ (j : Nat) t, fn.params[j]? = some t → Tryd.pinned.checked.prog.wantsStandIn t = false := by
  obtain rfl : f = 4 := Option.some.inj ((show Tryd.prog.funcNamed "conduit/conduitlaw16.FreshRefuses" = some 4 by kernel_rfl).symm.trans hf) |>.symm
  obtain rfl : fn = Tryd.f4 := (Option.some.inj (Tryd.func4.symm.trans hfn)).symm
  refine ⟨by kernel_rfl, fun j t ht => ?_⟩
  rw [Tryd.params4] at ht
  have hm := Array.mem_of_getElem? ht
  simp only [List.mem_toArray, List.mem_cons, List.not_mem_nil, or_false] at hm
  rcases hm with rfl | rfl
  · exact (show Tryd.prog.wantsStandIn 24 = false by kernel_rfl)
  · exact (show Tryd.prog.wantsStandIn 26 = false by kernel_rfl)

theorem proved : Rows.FreshRefusesUptoCardSaid :=
  Claim7.holds_tied_plain_at .later [] _ _ _ _ saidUpto (fun _ h => by cases h) (by kernel_rfl) (fun _ h => by cases h) freshRefusesUpto_row_tie rfl ⟨rfl, rfl⟩ (by kernel_rfl) rfl plain (by kernel_rfl)
end Go.Proofs.YtfhkgbimnfjfhaaDoor.freshRefuses

