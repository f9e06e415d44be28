/- FrameOthers: for every input within the second form's bound the law answers true and leaves its arguments as they were. Condition: the bulk of the arguments at most 1048576. -/
import Derived.Test.YtocgnjkikgcjdaaDoorCards
import Derived.Test.YtocgnjkikgcjdaaDoorTie
import Derived.Test.YtocgnjkikgcjdaaDoorFrmP
import Derived.Test.YtocgnjkikgcjdaaDoorOpenR
import Derived.Deep.Cut
import Derived.Deep.DeepCutAuto
import Derived.Test.YtocgnjkikgcjdaaDoorOpen
import Derived.Test.YtocgnjkikgcjdaaDoorBulk
import Derived.WalkKit
import Derived.ProofKit
import Derived.OpenShut
import Derived.JoinedCond
import Derived.Deep.DeepHandedRow
import Derived.Deep.DeepWitnessRowRef
import Derived.Lib.LaidTab
set_option linter.unusedVariables false
set_option linter.unusedSimpArgs false
set_option maxRecDepth 100000
namespace Go.Proofs.YtocgnjkikgcjdaaDoor.frameOthers
open Go.ChangeShapes Go.WideShapes Go.ChangeAt Go.RowKit

theorem isB_other {x : Fld} {name : List UInt8} (h : isB x name = false) (l : List Fld) (k : Nat) : valuesL (l.take k ++ x :: l.drop k) name = valuesL l name := by
  unfold valuesL
  rw [List.filter_append, List.filter_cons, if_neg (by rw [h]; decide), ← List.filter_append, List.take_append_drop]
theorem ruleL_others {x : Fld} (h1 : isB x nTE = false) (h2 : isB x nCL = false) (minor : Int) (l : List Fld) (k : Nat) : ruleL minor (l.take k ++ x :: l.drop k) 0 = ruleL minor l 0 := by
  unfold ruleL tokensL
  rw [isB_other h1, isB_other h2]
theorem rdF_take {w : World} {A : Option Addr} {n : Nat} {l : List Fld} (h : RdF w A n l) {k : Nat} (hk : k ≤ n) : RdF w A k (l.take k) := by
  have hl := h.1
  refine ⟨by simp; omega, by rw [fcells_length]; simp; omega, fun hp => ?_⟩
  obtain ⟨g, o, e, hg, hc⟩ := h.2.2 (by omega)
  refine ⟨g, o, e, hg, fun j u hu => hc j u ?_⟩
  rw [fcells_take] at hu
  have := (List.getElem?_eq_some_iff.1 hu).1
  rw [List.getElem?_take_of_lt (by simp at this; omega)] at hu
  exact hu
theorem fcells_drop (l : List Fld) (i : Nat) : fcells (l.drop i) = (fcells l).drop (2 * i) := by
  induction l generalizing i with
  | nil => simp [fcells]
  | cons f r ih =>
    cases i with
    | zero => simp [fcells]
    | succ i => rw [show 2 * (i + 1) = 2 * i + 1 + 1 from by omega]; simp [fcells, ih i]
theorem rdF_drop {w : World} {g o n : Nat} {l : List Fld} (h : RdF w (some ⟨g, o, none⟩) n l) {k : Nat} (hk : k ≤ n) : RdF w (some ⟨g, o + k * 2, none⟩) (n - k) (l.drop k) := by
  have hl := h.1
  refine ⟨by simp; omega, by rw [fcells_length]; simp; omega, fun hp => ?_⟩
  obtain ⟨g', o', e, hg, hc⟩ := h.2.2 (by omega)
  cases e
  refine ⟨g, o + k * 2, rfl, hg, fun j u hu => ?_⟩
  rw [fcells_drop, List.getElem?_drop] at hu
  rw [show o + k * 2 + j = o + (2 * k + j) by omega]
  exact hc _ u hu
theorem rdF_dropO {w : World} {A : Option Addr} {n : Nat} {l : List Fld} (h : RdF w A n l) {k : Nat} (hk : k ≤ n) : RdF w (A.map fun x => x.add (k * 2)) (n - k) (l.drop k) := by
  rcases Nat.eq_zero_or_pos n with h0 | h0
  · subst h0
    obtain rfl : k = 0 := by omega
    have hl : l = [] := List.eq_nil_of_length_eq_zero h.1
    subst hl
    exact RdF.nil _ _
  · obtain ⟨g, o, e, hg, hc⟩ := h.2.2 h0
    subst e
    simp only [Option.map_some, addr_add]
    exact rdF_drop h hk
theorem rdF_none {w : World} {A : Option Addr} {l : List Fld} {k : Nat} (h : l.length = k) : RdF w A 0 (l.drop k) := by
  rw [List.drop_of_length_le (by omega)]
  exact RdF.nil _ _
set_option maxRecDepth 100000 in
set_option maxHeartbeats 4000000 in
theorem walk (w : World) (m t : List UInt8) (minor : Int) (A : Option Addr) (n c : Nat) (l : List Fld) (hA : RdF w A n l) (hn : n + 3 ≤ 1048576) (hf : ∀ f ∈ l, f.1.length ≤ 1048576 ∧ f.2.length ≤ 1048576) (hnc : n ≤ c) (hcm : c ≤ maxLen)
    (x : Fld) (hx1 : x.1.length ≤ 1048576) (hx2 : x.2.length ≤ 1048576) (at_ : Int) (ha1 : -9223372036854775808 ≤ at_) (ha2 : at_ ≤ 9223372036854775807) :
    Calls Tryd.prog 6 #[reqV m t minor A n c, .agg #[.string (bs x.1), .string (bs x.2)], .int .i64 at_] w fun e w' => e = .returned (.bool true) ∧ Below w.heap.size w w' := by
  unfold reqV
  obtain ⟨xn, xv⟩ := x
  dsimp only at *
  have hal1 := alloc_below w (.cells #[.string (bs m), .string (bs t), .int .i64 minor, .slice A n c] 27)
  have hr0 := heap_alloc_new w (.cells #[.string (bs m), .string (bs t), .int .i64 minor, .slice A n c] 27)
  have hal2 := alloc_below (w.alloc (.cells #[.string (bs m), .string (bs t), .int .i64 minor, .slice A n c] 27)) (.cells #[.string (bs xn), .string (bs xv)] 42)
  have hs0 := heap_alloc_new (w.alloc (.cells #[.string (bs m), .string (bs t), .int .i64 minor, .slice A n c] 27)) (.cells #[.string (bs xn), .string (bs xv)] 42)
  rw [show (w.alloc (.cells #[.string (bs m), .string (bs t), .int .i64 minor, .slice A n c] 27)).heap.size = w.heap.size + 1 by simp] at hs0
  have hr0a := row_keep hr0 hal2
  have hbZ := bnext hal1 hal2 hal1.size
  have hl0 := (hA.step hal1).step hal2
  clear hA hal1 hal2 hr0
  unfold maxLen at hcm
  go_enter Tryd.func6, Tryd.ntmps6
  go_wp2_with fail
  refine (alive_any _).mono ?_
  rintro e w1 ⟨rfl, hb1⟩
  have hr1 := row_keep hr0a hb1
  have hs1 := row_keep hs0 hb1
  have hl1 := hl0.step hb1
  have hbA := bnext hbZ hb1 hbZ.size
  clear hr0a hs0 hl0 hbZ hb1
  obtain ⟨y0, y1, -, -⟩ := res_facts hs1
  go_wp2_with fail
  refine (lower_any xn _ (by omega)).mono ?_
  rintro e w2 ⟨rfl, hb2⟩
  have hr2 := row_keep hr1 hb2
  have hs2 := row_keep hs1 hb2
  have hl2 := hl1.step hb2
  have hbB := bnext hbA hb2 hbA.size
  have hcase : ((fold xn == [99, 111, 110, 116, 101, 110, 116, 45, 108, 101, 110, 103, 116, 104]) = true ∨ (fold xn == [99, 111, 110, 116, 101, 110, 116, 45, 108, 101, 110, 103, 116, 104]) = false ∧ ((fold xn == [116, 114, 97, 110, 115, 102, 101, 114, 45, 101, 110, 99, 111, 100, 105, 110, 103]) = true ∨ (fold xn == [116, 114, 97, 110, 115, 102, 101, 114, 45, 101, 110, 99, 111, 100, 105, 110, 103]) = false ∧ (at_ < 0 ∨ ((n : Int) < at_)))) ∨
      ((fold xn == [99, 111, 110, 116, 101, 110, 116, 45, 108, 101, 110, 103, 116, 104]) = false ∧ (fold xn == [116, 114, 97, 110, 115, 102, 101, 114, 45, 101, 110, 99, 111, 100, 105, 110, 103]) = false ∧ ∃ k : Nat, at_ = (k : Int) ∧ k ≤ n) := by
    cases e1 : (fold xn == [99, 111, 110, 116, 101, 110, 116, 45, 108, 101, 110, 103, 116, 104]) <;> cases e2 : (fold xn == [116, 114, 97, 110, 115, 102, 101, 114, 45, 101, 110, 99, 111, 100, 105, 110, 103]) <;> simp
    by_cases h : at_ < 0
    · exact .inl (.inl h)
    · by_cases h2 : (n : Int) < at_
      · exact .inl (.inr h2)
      · exact .inr ⟨at_.toNat, by omega, by omega⟩
  obtain ⟨a0, a1, a2, a3, -⟩ := row_facts4 hr2
  obtain ⟨y0, y1, -, -⟩ := res_facts hs2
  clear hr1 hs1 hl1 hbA hb2
  rcases hcase with hc1 | ⟨e1, e2, k, rfl, hk⟩
  · have HB := Lib.hid hbB
    clear hbB
    rcases hc1 with e1 | ⟨e1, e2 | ⟨e2, e3 | e3⟩⟩
    all_goals
      go_wp2
      go_ret
      exact ⟨rfl, HB.out⟩
  · have HI1 : Hid (isB (xn, xv) nTE = false) := Lib.hid (by unfold isB; rw [show fold nTE = [116, 114, 97, 110, 115, 102, 101, 114, 45, 101, 110, 99, 111, 100, 105, 110, 103] by decide]; exact e2)
    have HI2 : Hid (isB (xn, xv) nCL = false) := Lib.hid (by unfold isB; rw [show fold nCL = [99, 111, 110, 116, 101, 110, 116, 45, 108, 101, 110, 103, 116, 104] by decide]; exact e1)
    have k0 : (0 : Int) ≤ (k : Int) := by omega
    have k1 : (k : Int) ≤ (n : Int) := by omega
    have k2 : (k : Int) ≤ (c : Int) := by omega
    have HS : Hid (FlenS (l.take k ++ (xn, xv) :: l.drop k)) := Lib.hid (by
      intro f hm
      simp only [List.mem_append, List.mem_cons] at hm
      rcases hm with h | rfl | h
      · exact hf f (List.mem_of_mem_take h)
      · exact ⟨by simp only; omega, by simp only; omega⟩
      · exact hf f (List.mem_of_mem_drop h))
    have HF := Lib.hid hf
    have HE := Lib.hid (ruleL_others HI1.out HI2.out minor l k)
    have hln := hl2.1
    clear hf HI1 HI2
    go_wp2_with fail
    refine (copyFields_own A k c (l.take k) w2 (rdF_take hl2 hk) (by omega)).mono ?_
    rintro e w3 ⟨A3, n3, c3, rfl, hown3, hb3⟩
    have hr3 := row_keep hr2 hb3
    have hs3 := row_keep hs2 hb3
    have hl3 := hl2.step hb3
    have hbC := bnext hbB hb3 hbB.size
    have hz2 : w.heap.size + 2 ≤ w2.heap.size := by
      have := (Array.getElem?_eq_some_iff.1 hs2).1
      omega
    have hz3 := hb3.size
    obtain ⟨y0, y1, -, -⟩ := res_facts hs3
    have HR3 := Lib.hid hr3
    have HL2 := Lib.hid hl2
    have HB3 := Lib.hid hb3
    have HBC := Lib.hid hbC
    have HB2 := Lib.hid hbB
    have hlA : A = none → n = 0 := by
      intro h
      rcases Nat.eq_zero_or_pos n with h0 | h0
      · exact h0
      · obtain ⟨g, o, e, _⟩ := hl2.2.2 h0
        rw [h] at e; cases e
    clear hr2 hs2 hl2 hb3 hr3 hs3 hl3 hbC hbB a0 a1 a2 a3
    have hlk : (l.take k).length = k := by simp; omega
    go_upto_region 8 with
      (at_builtin
       refine wp_appF rfl (.tmp 40) (.tmp 42) rfl w2.heap.size (.slice A3 n3 c3) (l.take k) rfl (hown3.step (alloc_below _ _)) (some ⟨w3.heap.size, 0, none⟩) 1 1 [(xn, xv)] rfl ?hr ?hby ?hbase ?_
       case hr => exact one_rdF _ _ _ _
       case hby => omega
       case hbase => simp; omega
       intro A4 n4 c4 w4 hown4 hb4 hn4
       have hx4 : Below w2.heap.size w3 w4 := ((alloc_below w3 (.cells #[.string (bs xn), .string (bs xv)] 42)).mono hz3).trans hb4
       have hr4 := (hx4.block w.heap.size (by omega)).trans HR3.out
       obtain ⟨b0, b1, b2, b3, -⟩ := row_facts4 hr4
       clear hr4)
    have hl4 := HL2.out.step (HB3.out.trans hx4)
    go_cut [8] (fun v wx => ∃ (A5 : Option Addr) (n5 c5 : Nat), v = .slice A5 n5 c5 ∧ OwnF wx w2.heap.size (.slice A5 n5 c5) (l.take k ++ (xn, xv) :: l.drop k) ∧ Below w2.heap.size w3 wx)
    case first =>
      by_cases hck : c = k
      · obtain rfl : n = k := by omega
        subst hck
        have hnk : (c : Int) - (c : Int) = 0 := by omega
        go_wp2_with
          (at_builtin
           refine wp_appF rfl (.tmp 44) (.tmp 48) rfl w2.heap.size (.slice A4 n4 c4) (l.take c ++ [(xn, xv)]) rfl hown4 A 0 0 (l.drop c) rfl ?hr2 ?hby2 ?hbase2 ?_
           case hr2 => exact rdF_none hln
           case hby2 => simp; omega
           case hbase2 => exact Nat.le_trans hz3 hx4.size
           intro A5 n5 c5 w5 hown5 hb5 hn5)
        go_meet
        case rel => exact ⟨A5, n5, c5, rfl, by rw [List.append_assoc] at hown5; exact hown5, hx4.trans hb5⟩
      · have hnk : (n : Int) - (k : Int) = ((n - k : Nat) : Int) := by omega
        go_wp2_with
          (at_builtin
           refine wp_appF rfl (.tmp 44) (.tmp 48) rfl w2.heap.size (.slice A4 n4 c4) (l.take k ++ [(xn, xv)]) rfl hown4 (A.map fun x => x.add (k * 2)) (n - k) (c - k) (l.drop k) rfl ?hr2 ?hby2 ?hbase2 ?_
           case hr2 => exact rdF_dropO hl4 hk
           case hby2 => simp; omega
           case hbase2 => exact Nat.le_trans hz3 hx4.size
           intro A5 n5 c5 w5 hown5 hb5 hn5)
        go_meet
        case rel => exact ⟨A5, n5, c5, rfl, by rw [List.append_assoc] at hown5; exact hown5, hx4.trans hb5⟩
    case rest =>
      obtain ⟨A5, n5, c5, rfl, hown5, hx5⟩ := hcut
      clear hl4 hx4 hown4 hb4 b0 b1 b2 b3
      have hr5 := (hx5.block w.heap.size (by omega)).trans HR3.out
      have hl5 := HL2.out.step (HB3.out.trans hx5)
      have hbE := HB2.out.trans ((HB3.out.trans hx5).mono (by omega))
      have hrd5 := hown5.rd
      have hn5 : n5 ≤ 1048576 := by have := hrd5.1; simp at this; omega
      have hnn : n ≤ 1048576 := by omega
      obtain ⟨b0, b1, b2, b3, -⟩ := row_facts4 hr5
      clear hown5 hx5
      go_wp2_with fail
      refine (copyRequest_any m t minor A n c l wc hl5 hnn).mono ?_
      rintro e w6 ⟨A', n', c', rfl, hl6', hb6⟩
      have hn' : n' ≤ 1048576 := by have := hl6'.1; omega
      have hr6 := row_keep hr5 hb6
      have hrd6 := hrd5.step hb6
      have hbF := bnext hbE hb6 hbE.size
      have hO := ofRequest_any m t minor A' n' c' l _ hl6' hn' HF.out
      clear hr5 hl5 hbE hrd5 hb6 b0 b1 b2 b3
      generalize hQ : ruleL minor l 0 = q at *
      have HQ := Lib.hid hQ
      clear hQ
      obtain ⟨x, y, z⟩ := q
      unfold bodyV reqV at hO
      dsimp only at hO
      unfold reqV
      go_wp2_with fail
      refine hO.mono ?_
      rintro e w7 ⟨rfl, hb7⟩
      have hr7 := row_keep hr6 hb7
      have hrd7 := hrd6.step hb7
      have hbG := bnext hbF hb7 hbF.size
      have hal := alloc_below w7 (.cells #[.int .i64 x, .int .i64 y] 31)
      have hu8 := heap_alloc_new w7 (.cells #[.int .i64 x, .int .i64 y] 31)
      have hr8 := row_keep hr7 hal
      have hrd8 := hrd7.step hal
      have hbH := bnext hbG hal hbG.size
      obtain ⟨b0, b1, b2, b3, -⟩ := row_facts4 hr8
      have hO2 := ofRequest_any m t minor A5 n5 c5 _ _ hrd8 hn5 HS.out
      rw [HE.out] at hO2
      unfold bodyV reqV at hO2
      dsimp only at hO2
      clear hr6 hrd6 hbF hb7 hr7 hrd7 hbG hal hO hl6'
      go_wp2_with fail
      refine hO2.mono ?_
      rintro e w9 ⟨rfl, hb9⟩
      have hu9 := row_keep hu8 hb9
      have hbI := bnext hbH hb9 hbH.size
      have hal := alloc_below w9 (.cells #[.int .i64 x, .int .i64 y] 31)
      obtain ⟨d0, d1, -, -⟩ := res_facts (row_keep hu9 hal)
      have HB10 := Lib.hid (bnext hbI hal hbI.size)
      have hq := eql_body x y x y
      have hg := eqg_body
      clear hr8 hrd8 hu8 hbH hO2 hb9 hu9 hbI hal b0 b1 b2 b3
      go_wp2
      go_ret
      exact ⟨by simp, HB10.out⟩

theorem own : ownKnob Tryd.prog.godebug = none := by kernel_rfl
theorem contract (H : Type) (enc : TypeId × Value → H) (W : World) (base : Nat) (args : Array Value) (ds gs : List (DataW H)) (before : List MemPlace)
    (hval : ∀ (j : Nat) t v, Tryd.f6.params[j]? = some t → args[j]? = some v → Value.okWide Tryd.prog W .any base t v)
    (hW : DataW.Whole enc Tryd.prog Tryd.f6.params.toList Rows.frameOthersSpec.vars false W args.toList ds gs before) (hk : Rows.uptoSmall H (ds ++ gs) = true) :
    Calls Tryd.prog 6 args W fun e W' => ∃ v, e = .returned v ∧ Rows.frameOthersSpec.post enc Tryd.prog Tryd.f6 false true false false W args v W' := by
  have hW' := hW
  obtain ⟨p, q, hA0, hV, rfl, hfz, hnd⟩ := hW
  have hA : DataW.TrodAll enc Tryd.prog W 0 (fun _ => true) true Tryd.f6.params.toList args.toList ds p := hA0
  rw [Tryd.params6] at hA hval
  obtain ⟨v0, vs0, d0, ds0, p0, q0, hargs, rfl, rfl, h0, r0⟩ := trodAll_cons hA
  obtain ⟨v1, vs1, d1, ds1, p1, q1, rfl, rfl, rfl, h1, r1⟩ := trodAll_cons r0
  obtain ⟨v2, vs2, d2, ds2, p2, q2, rfl, rfl, rfl, h2, r2⟩ := trodAll_cons r1
  obtain ⟨rfl, rfl, rfl⟩ := trodAll_nil r2
  obtain rfl : args = #[v0, v1, v2] := by cases args; simp_all
  obtain ⟨rfl, rfl⟩ := trodVars_none hV
  have hall := bulks.bound hk
  simp only [List.append_nil, Rows.uptoBulkAll] at hall
  have hb0 : Rows.uptoBulk d0 ≤ 1048576 := by omega
  have hb1 : Rows.uptoBulk d1 ≤ 1048576 := by omega
  have hb2 : Rows.uptoBulk d2 ≤ 1048576 := by omega
  clear hall
  obtain ⟨m0, t0, x0, A0, n0, c0, l0, rfl, hr0, hn0, hf0, hc0, hd0⟩ := opReq (hval 0 27 v0 rfl rfl) h0 hb0
  obtain ⟨f1, rfl, hf1, hg1⟩ := opFld (hval 1 42 v1 rfl rfl) h1 hb1
  obtain ⟨i2, rfl, hi2, hj2⟩ := opI (hval 2 3 v2 rfl rfl) h2
  clear hA0
  refine (walk W m0 t0 x0 A0 n0 c0 l0 hr0 hn0 hf0 hc0 hd0 f1 hf1 hg1 i2 hi2 hj2).mono fun e W' ⟨he, hg⟩ => ?_
  subst he
  exact ⟨_, rfl, post_of_below (pa := p0 ++ (p1 ++ (p2 ++ ([])))) (pv := []) hW' (fun _ _ _ => (trodAll_cons_mk (shut_bool Tryd.underlying4 _) trodAll_mk0)) (fun sp hsp => (trodAll_cons_mk (arg_stays laidOut (by kernel_rfl) (of_decide_eq_true (by kernel_rfl)) h0 hg (fun x hx => hW'.lt x (by simp [hx])) sp (fun x hx => hsp x (by simp [hx]))) (trodAll_cons_mk (arg_stays laidOut (by kernel_rfl) (of_decide_eq_true (by kernel_rfl)) h1 hg (fun x hx => hW'.lt x (by simp [hx])) sp (fun x hx => hsp x (by simp [hx]))) (trodAll_cons_mk (arg_stays laidOut (by kernel_rfl) (of_decide_eq_true (by kernel_rfl)) h2 hg (fun x hx => hW'.lt x (by simp [hx])) sp (fun x hx => hsp x (by simp [hx]))) trodAll_mk0)))) (fun _ _ => rfl) rfl
    hg (ok_one (by kernel_rfl) rfl (okWide_bool_mk Tryd.underlying4 _))⟩

/-- A world for the witness: the settled one, the listed variables holding what the program lays. -/
noncomputable def laidWorld (os : Os) : World :=
  { (World.holding Tryd.prog os ⟨#[.cells #[.string ⟨#[118, 97, 108, 117, 101, 32, 111, 117, 116, 32, 111, 102, 32, 114, 97, 110, 103, 101]⟩] 119, .cells #[.string ⟨#[105, 110, 118, 97, 108, 105, 100, 32, 115, 121, 110, 116, 97, 120]⟩] 119], #[], []⟩) with heap := ((((((((World.holding Tryd.prog os ⟨#[.cells #[.string ⟨#[118, 97, 108, 117, 101, 32, 111, 117, 116, 32, 111, 102, 32, 114, 97, 110, 103, 101]⟩] 119, .cells #[.string ⟨#[105, 110, 118, 97, 108, 105, 100, 32, 115, 121, 110, 116, 97, 120]⟩] 119], #[], []⟩).heap.modify 6 fun
      | .cells _ t frozen => .cells #[.int .u8 0, .int .u8 1, .int .u8 28, .int .u8 2, .int .u8 29, .int .u8 14, .int .u8 24, .int .u8 3, .int .u8 30, .int .u8 22, .int .u8 20, .int .u8 15, .int .u8 25, .int .u8 17, .int .u8 4, .int .u8 8, .int .u8 31, .int .u8 27, .int .u8 13, .int .u8 23, .int .u8 21, .int .u8 19, .int .u8 16, .int .u8 7, .int .u8 26, .int .u8 12, .int .u8 18, .int .u8 6, .int .u8 11, .int .u8 5, .int .u8 10, .int .u8 9] t frozen
      | o => o).modify 7 fun
      | .cells _ t frozen => .cells #[.int .u8 0, .int .u8 1, .int .u8 56, .int .u8 2, .int .u8 57, .int .u8 49, .int .u8 28, .int .u8 3, .int .u8 61, .int .u8 58, .int .u8 42, .int .u8 50, .int .u8 38, .int .u8 29, .int .u8 17, .int .u8 4, .int .u8 62, .int .u8 47, .int .u8 59, .int .u8 36, .int .u8 45, .int .u8 43, .int .u8 51, .int .u8 22, .int .u8 53, .int .u8 39, .int .u8 33, .int .u8 30, .int .u8 24, .int .u8 18, .int .u8 12, .int .u8 5, .int .u8 63, .int .u8 55, .int .u8 48, .int .u8 27, .int .u8 60, .int .u8 41, .int .u8 37, .int .u8 16, .int .u8 46, .int .u8 35, .int .u8 44, .int .u8 21, .int .u8 52, .int .u8 32, .int .u8 23, .int .u8 11, .int .u8 54, .int .u8 26, .int .u8 40, .int .u8 15, .int .u8 34, .int .u8 20, .int .u8 31, .int .u8 10, .int .u8 25, .int .u8 14, .int .u8 19, .int .u8 9, .int .u8 13, .int .u8 8, .int .u8 7, .int .u8 6] t frozen
      | o => o).modify 5 fun
      | .cells _ t frozen => .cells #[.int .u64 1, .int .u64 10, .int .u64 100, .int .u64 1000, .int .u64 10000, .int .u64 100000, .int .u64 1000000, .int .u64 10000000, .int .u64 100000000, .int .u64 1000000000, .int .u64 10000000000, .int .u64 100000000000, .int .u64 1000000000000, .int .u64 10000000000000, .int .u64 100000000000000, .int .u64 1000000000000000, .int .u64 10000000000000000, .int .u64 100000000000000000, .int .u64 1000000000000000000, .int .u64 10000000000000000000] t frozen
      | o => o).modify 4 fun
      | .cells _ t frozen => .cells #[.int .u8 128, .int .u8 191, .int .u8 160, .int .u8 191, .int .u8 128, .int .u8 159, .int .u8 144, .int .u8 191, .int .u8 128, .int .u8 143, .int .u8 0, .int .u8 0, .int .u8 0, .int .u8 0, .int .u8 0, .int .u8 0, .int .u8 0, .int .u8 0, .int .u8 0, .int .u8 0, .int .u8 0, .int .u8 0, .int .u8 0, .int .u8 0, .int .u8 0, .int .u8 0, .int .u8 0, .int .u8 0, .int .u8 0, .int .u8 0, .int .u8 0, .int .u8 0] t frozen
      | o => o).modify 2 fun
      | .cells _ t frozen => .cells #[.iface 117 (.pointer (some ⟨(World.settled Tryd.prog os).heap.size + 0, 0, none⟩))] t frozen
      | o => o).modify 1 fun
      | .cells _ t frozen => .cells #[.iface 117 (.pointer (some ⟨(World.settled Tryd.prog os).heap.size + 1, 0, none⟩))] t frozen
      | o => o).modify 3 fun
      | .cells _ t frozen => .cells (Go.Pinned.utf8FirstZ.map fun (n : Nat) => Value.int .u8 (n : Int)).toArray t frozen
      | o => o) }
theorem laid_met (os : Os) : laidMet Tryd.prog Rows.frameOthersUptoRow.laid ((laidWorld os).forCall (fun _ _ => 0) ⟨#[], #[.agg #[.string ⟨#[]⟩, .string ⟨#[]⟩, .int .i64 0, .slice none 0 0], .agg #[.string ⟨#[]⟩, .string ⟨#[]⟩], .int .i64 0], []⟩).memory :=
  laidMet_of_run' 8 (by kernel_rfl) (by kernel_rfl)
theorem reads (os : Os) {H : Type} (enc : TypeId × Value → H) : ∃ places, DataW.whole enc Tryd.prog ((laidWorld os).forCall (fun _ _ => 0) ⟨#[], #[.agg #[.string ⟨#[]⟩, .string ⟨#[]⟩, .int .i64 0, .slice none 0 0], .agg #[.string ⟨#[]⟩, .string ⟨#[]⟩], .int .i64 0], []⟩).memory Tryd.f6.params.toList Rows.frameOthersSpec.vars false #[.agg #[.string ⟨#[]⟩, .string ⟨#[]⟩, .int .i64 0, .slice none 0 0], .agg #[.string ⟨#[]⟩, .string ⟨#[]⟩], .int .i64 0].toList 8 = some ([.agg [.lit (.string []), .lit (.string []), .lit (.int .i64 0), .nil], .agg [.lit (.string []), .lit (.string [])], .lit (.int .i64 0)], [], places) :=
  ⟨[], by kernel_rfl⟩

set_option maxRecDepth 100000 in
theorem liftedUpto (os : Os) (started : os.Started) (H : Type) (enc : TypeId × Value → H) (F : Stop.Interp) :
    ReturnsInHanded {} Tryd.checked os 6 .any ((Rows.OpenSpec.upto Rows.frameOthersSpec).preRow enc Tryd.prog Tryd.f6 Rows.frameOthersUptoRow.domain false Rows.frameOthersUptoRow.laid) (((Rows.OpenSpec.upto Rows.frameOthersSpec).at F).post enc Tryd.prog Tryd.f6 false true false false) := by
  obtain ⟨places, hx⟩ := reads os enc
  refine returnsInHanded_of_row (C := Tryd.checked) (s := Rows.OpenSpec.upto Rows.frameOthersSpec) own started (by kernel_rfl) Tryd.func6
    (witness_row_atRef (enc := enc) (C := Tryd.checked) false (laidWorld os) #[.agg #[.string ⟨#[]⟩, .string ⟨#[]⟩, .int .i64 0, .slice none 0 0], .agg #[.string ⟨#[]⟩, .string ⟨#[]⟩], .int .i64 0] rfl (by kernel_rfl) (by kernel_rfl) (by kernel_rfl)
      (OpenSpec.preRow_of_cond 8 hx (by kernel_rfl) (fun k hk => by cases hk; kernel_rfl) (by kernel_rfl) (laid_met os))) ?_
  intro W base args ds gs before hval hW _ hcond _ _ _ _
  exact contract H enc W base args ds gs before hval hW (hcond _ rfl)

theorem saidUpto : Rows.FrameOthersUptoSaid :=
  OpenClaim.holds_of_cond 6 Tryd.f6 rfl rfl rfl rfl rfl rfl rfl ⟨rfl, rfl, rfl, rfl, rfl⟩ rfl rfl rfl rfl rfl (by kernel_rfl) Tryd.func6 (by kernel_rfl)
    (of_decide_eq_true (by kernel_rfl)) (by unfold Func.isWrapper; first | (rw [if_pos (by decide +kernel)]; kernel_rfl) | (rw [if_neg (by decide +kernel)]; exact ⟨rfl, rfl⟩))
    (fun os started H enc _ F => by rw [OpenClaim.pre_eq_preRow]; exact liftedUpto os started H enc F)

theorem plain (f : FuncId) (fn : Func) (hf : Tryd.pinned.checked.prog.funcNamed "conduit/conduitlaw06.FrameOthers" = some f) (hfn : Tryd.pinned.checked.prog.funcs[f]? = some fn) :
    true = Tryd.pinned.checked.prog.looks [] ∧ ∀ (j : Nat) t, fn.params[j]? = some t → Tryd.pinned.checked.prog.wantsStandIn t = false := by
  obtain rfl : f = 6 := Option.some.inj ((show Tryd.prog.funcNamed "conduit/conduitlaw06.FrameOthers" = some 6 by kernel_rfl).symm.trans hf) |>.symm
  obtain rfl : fn = Tryd.f6 := (Option.some.inj (Tryd.func6.symm.trans hfn)).symm
  refine ⟨by kernel_rfl, fun j t ht => ?_⟩
  rw [Tryd.params6] at ht
  have hm := Array.mem_of_getElem? ht
  simp only [List.mem_toArray, List.mem_cons, List.not_mem_nil, or_false] at hm
  rcases hm with rfl | rfl | rfl
  · exact (show Tryd.prog.wantsStandIn 27 = false by kernel_rfl)
  · exact (show Tryd.prog.wantsStandIn 42 = false by kernel_rfl)
  · exact (show Tryd.prog.wantsStandIn 3 = false by kernel_rfl)

theorem proved : Rows.FrameOthersUptoCardSaid :=
  Claim7.holds_tied_plain_at .later [] _ _ _ _ saidUpto (fun _ h => by cases h) (by kernel_rfl) (fun _ h => by cases h) frameOthersUpto_row_tie rfl ⟨rfl, rfl⟩ (by kernel_rfl) rfl plain (by kernel_rfl)
end Go.Proofs.YtocgnjkikgcjdaaDoor.frameOthers
