/- ValidMerged: for every input within the second form's bound the law answers true and leaves its arguments as they were. Condition: the bulk of the arguments at most 1048576. -/
import Derived.Test.YtbigcdmkfcmegaaRows
import Derived.Test.YtbigcdmkfcmegaaAlive18
import Derived.Test.YtbigcdmkfcmegaaValues
import Derived.Test.YtbigcdmkfcmegaaLower
import Derived.Test.YtbigcdmkfcmegaaOpen
import Derived.Test.YtbigcdmkfcmegaaBulk
import Derived.WalkKit
import Derived.Deep.Cut
import Derived.Deep.DeepCutAuto
import Derived.ProofKit
import Derived.OpenShut
import Derived.JoinedCond
set_option linter.unusedVariables false
set_option linter.unusedSimpArgs false
namespace Go.Proofs.Ytbigcdmkfcmegaa.validMerged
open Go.ChangeShapes Go.WideShapes Go.ChangeAt Go.RowKit

theorem okB {l : List Fld} (h : ∀ f ∈ l, f.1.length ≤ 1048576 ∧ f.2.length ≤ 1048576) : FlenOK l := fun f hf => by have := h f hf; omega
theorem merge_le (a b : List Fld) : (mergeL a b).length ≤ a.length + b.length := by
  unfold mergeL
  split
  · omega
  · unfold outL
    have h1 := withoutF_le a ((newsL b).map Prod.fst)
    have h2 : (newsL b).length ≤ b.length := withoutF_le b hopP
    rw [List.length_append]
    omega
def tstB (up : List Fld) (name : List UInt8) : Bool := decide (0 < (valuesL up name).length) && !(hopR.contains (fold name))
def wantL (st up : List Fld) (name : List UInt8) : List (List UInt8) := if tstB up name = true then valuesL up name else valuesL st name
theorem filter_and {α : Type} (p q : α → Bool) (l : List α) : (l.filter p).filter q = l.filter fun x => p x && q x := by
  rw [List.filter_filter]
  congr 1
  funext x
  exact Bool.and_comm _ _
theorem filter_ext {α : Type} {p q : α → Bool} {l : List α} (h : ∀ x ∈ l, p x = q x) : l.filter p = l.filter q := List.filter_congr h
theorem any_names (f : Fld) (ns : List (List UInt8)) : ns.any (isB f) = (ns.map fold).contains (fold f.1) := by
  induction ns with
  | nil => rfl
  | cons a r ih => simp only [List.any_cons, List.map_cons, List.contains_cons, ih]; rfl
theorem values_out (st up : List Fld) (name : List UInt8) : valuesL (outL st up) name = wantL st up name := by
  unfold outL wantL
  have hsplit : valuesL (withoutF st ((newsL up).map Prod.fst) ++ newsL up) name = valuesL (withoutF st ((newsL up).map Prod.fst)) name ++ valuesL (newsL up) name := by
    unfold valuesL; rw [List.filter_append, List.map_append]
  rw [hsplit]
  have hnews : valuesL (newsL up) name = if hopR.contains (fold name) = true then [] else valuesL up name := by
    unfold newsL withoutF valuesL
    rw [filter_and]
    by_cases hh : hopR.contains (fold name) = true
    · rw [if_pos hh]
      have : (up.filter fun x => !hopP.any (isB x) && isB x name) = [] := by
        rw [List.filter_eq_nil_iff]
        intro x _
        simp only [Bool.and_eq_true, Bool.not_eq_true']
        rintro ⟨h1, h2⟩
        rw [any_names, ← hopR_eq] at h1
        have e : fold x.1 = fold name := eq_of_beq h2
        rw [e, hh] at h1
        cases h1
      rw [this]; rfl
    · rw [if_neg hh]
      congr 1
      refine filter_ext fun x _ => ?_
      by_cases h2 : isB x name = true
      · have e : fold x.1 = fold name := eq_of_beq h2
        rw [any_names, ← hopR_eq, e, h2]
        simpa using hh
      · have h2' : isB x name = false := by simpa using h2
        rw [h2']; simp
  have hst : valuesL (withoutF st ((newsL up).map Prod.fst)) name = if valuesL (newsL up) name = [] then valuesL st name else [] := by
    unfold withoutF
    unfold valuesL
    rw [filter_and]
    by_cases hh : ((newsL up).filter fun f => isB f name).map Prod.snd = []
    · rw [if_pos hh]
      congr 1
      refine filter_ext fun x _ => ?_
      by_cases h2 : isB x name = true
      · have e : fold x.1 = fold name := eq_of_beq h2
        rw [h2, Bool.and_true]
        simp only [List.map_eq_nil_iff, List.filter_eq_nil_iff] at hh
        simp only [Bool.not_eq_true', List.any_eq_false, List.mem_map]
        rintro y ⟨f, hf, rfl⟩
        have := hh f hf
        unfold isB at this ⊢
        rw [e]
        intro h3
        apply this
        rw [eq_of_beq h3]; simp
      · have h2' : isB x name = false := by simpa using h2
        rw [h2']; simp
    · rw [if_neg hh]
      simp only [List.map_eq_nil_iff, List.filter_eq_nil_iff, Bool.and_eq_true, Bool.not_eq_true']
      rintro x _ ⟨h1, h2⟩
      apply hh
      simp only [List.map_eq_nil_iff, List.filter_eq_nil_iff]
      intro f hf h3
      have h4 := List.any_eq_false.1 h1 f.1 (List.mem_map.2 ⟨f, hf, rfl⟩)
      apply h4
      have e1 : fold x.1 = fold name := eq_of_beq h2
      have e2 : fold f.1 = fold name := eq_of_beq h3
      unfold isB
      rw [e1, e2]; simp
  rw [hst, hnews]
  unfold tstB
  by_cases hh : hopR.contains (fold name) = true
  · rw [if_pos hh, hh]; simp
  · have hh' : hopR.contains (fold name) = false := by simpa using hh
    rw [if_neg hh, hh']
    by_cases hv : valuesL up name = []
    · rw [hv]; simp
    · have : 0 < (valuesL up name).length := List.length_pos_iff.2 hv
      simp [hv, this]
theorem out_le (st up : List Fld) : (outL st up).length ≤ st.length + up.length := by
  unfold outL
  have h1 := withoutF_le st ((newsL up).map Prod.fst)
  have h2 : (newsL up).length ≤ up.length := withoutF_le up hopP
  rw [List.length_append]
  omega
theorem merge_small {st up : List Fld} (h : st.length + up.length ≤ 100) : mergeL st up = outL st up := if_neg (by have := out_le st up; omega)
theorem out_again (st up : List Fld) : outL (outL st up) up = outL st up := by
  unfold outL
  generalize newsL up = news
  congr 1
  unfold withoutF
  rw [List.filter_append, List.filter_filter]
  have h1 : (news.filter fun f => !(news.map Prod.fst).any (isB f)) = [] := by
    rw [List.filter_eq_nil_iff]
    intro f hf
    simp only [Bool.not_eq_true', Bool.not_eq_false]
    rw [List.any_eq_true]
    exact ⟨f.1, List.mem_map.2 ⟨f, hf, rfl⟩, by unfold isB; simp⟩
  rw [h1, List.append_nil]
  congr 1
  funext f
  simp
theorem merge_again {st up : List Fld} (h : st.length + up.length ≤ 100) : mergeL (mergeL st up) up = mergeL st up := by
  rw [merge_small h]
  unfold mergeL
  rw [out_again]
  exact if_neg (by have := out_le st up; omega)
theorem merge_big (st up : List Fld) (h : 100 < (mergeL st up).length) : mergeL st up = st := by
  unfold mergeL at h ⊢
  split
  · rfl
  · rename_i h'; rw [if_neg h'] at h; exact absurd h h'

set_option maxHeartbeats 2000000 in
theorem walk (w : World) (A : Option Addr) (n c : Nat) (l : List Fld) (hA : RdF w A n l) (hn : n ≤ 1048576) (hf : ∀ f ∈ l, f.1.length ≤ 1048576 ∧ f.2.length ≤ 1048576)
    (B : Option Addr) (m d : Nat) (u : List Fld) (hB : RdF w B m u) (hm : m ≤ 1048576) (hg : ∀ f ∈ u, f.1.length ≤ 1048576 ∧ f.2.length ≤ 1048576)
    (name : List UInt8) (hname : name.length ≤ 1048576) :
    Calls Try.prog 6 #[.slice A n c, .slice B m d, .string (bs name)] w fun e w' => e = .returned (.bool true) ∧ Below w.heap.size w w' := by
  have fA := okB hf
  have fB := okB hg
  clear hf hg
  have HLA : Hid (l.length = n) := Lib.hid hA.1
  have HLB : Hid (u.length = m) := Lib.hid hB.1
  have HML : Hid ((mergeL l u).length ≤ n + m) := Lib.hid (by have := merge_le l u; have := hA.1; have := hB.1; omega)
  go_enter Try.func6, Try.ntmps6
  go_wp2_with fail
  refine (alive18 w).mono ?_
  rintro e w1 ⟨rfl, hb1⟩
  go_wp2_with fail
  refine (copyFields_any A n c l _ (hA.step hb1) (by omega)).mono ?_
  rintro e w2 ⟨A2, n2, c2, rfl, hr2, hb2⟩
  have b2 := bnext hb1 hb2 hb1.size
  have HN2 : Hid (n2 = n) := Lib.hid (by have := hr2.1; have := hA.1; omega)
  have hn2 : n2 ≤ 1048576 := by have := HN2.out; omega
  go_wp2_with fail
  refine (copyFields_any B m d u _ (hB.step b2) (by omega)).mono ?_
  rintro e w3 ⟨A3, n3, c3, rfl, hr3, hb3⟩
  have b3 := bnext b2 hb3 b2.size
  have HN3 : Hid (n3 = m) := Lib.hid (by have := hr3.1; have := hB.1; omega)
  have hn3 : n3 ≤ 1048576 := by have := HN3.out; omega
  go_wp2_with fail
  refine (merge_p A2 A3 n2 c2 n3 c3 l u _ (hr2.step hb3) hr3 (by omega) fA fB).mono ?_
  rintro e w4 ⟨A4, n4, c4, rfl, ho4, hb4⟩
  have b4 := bnext b3 hb4 b3.size
  have r4 := ho4.rd
  have HN4 : Hid ((mergeL l u).length = n4) := Lib.hid r4.1
  have hn4 : n4 ≤ 2097152 := by have := r4.1; have := HML.out; omega
  have fM : FlenOK (mergeL l u) := by
    unfold mergeL
    split
    · exact fA
    · unfold outL
      intro f hf
      rcases List.mem_append.1 hf with h | h
      · exact withoutF_ok fA f h
      · exact withoutF_ok fB f h
  clear ho4 hr2 hr3
  go_wp2_with fail
  refine (lower_any name _ (by omega)).mono ?_
  rintro e w5 ⟨rfl, hb5⟩
  have b5 := bnext b4 hb5 b4.size
  go_wp2_with fail
  refine (copyFields_any A n c l _ (hA.step b5) (by omega)).mono ?_
  rintro e w6 ⟨A6, n6, c6, rfl, hr6, hb6⟩
  have b6 := bnext b5 hb6 b5.size
  have hn6 : n6 ≤ 1048576 := by have := hr6.1; have := HLA.out; omega
  go_wp2_with fail
  refine (values_own A6 n6 c6 l name _ hr6 (by omega) fA (by omega)).mono ?_
  rintro e w7 ⟨A7, n7, c7, rfl, ho7, hb7⟩
  have b7 := bnext b6 hb7 b6.size
  have r7 := ho7.rd
  clear ho7 hr6
  go_wp2_with fail
  refine (copyFields_any B m d u _ (hB.step b7) (by omega)).mono ?_
  rintro e w8 ⟨A8, n8, c8, rfl, hr8, hb8⟩
  have b8 := bnext b7 hb8 b7.size
  have hn8 : n8 ≤ 1048576 := by have := hr8.1; have := HLB.out; omega
  go_wp2_with fail
  refine (values_own A8 n8 c8 u name _ hr8 (by omega) fB (by omega)).mono ?_
  rintro e w9 ⟨A9, n9, c9, rfl, ho9, hb9⟩
  have b9 := bnext b8 hb9 b8.size
  have r9 := ho9.rd
  have r79 := (r7.step hb8).step hb9
  have r49 := ((((r4.step hb5).step hb6).step hb7).step hb8).step hb9
  have hn9 : n9 ≤ 1048576 := by have := r9.1; have := values_le u name; have := HLB.out; omega
  have hn7 : n7 ≤ 1048576 := by have := r7.1; have := values_le l name; have := HLA.out; omega
  have HN9 : Hid ((valuesL u name).length = n9) := Lib.hid r9.1
  clear ho9 hr8 r7 r4 hb1 hb2 hb3 hb4 hb5 hb6 hb7 hb8 hb9
  have HT : Hid (tstB u name = (decide (0 < n9) && !(hopR.contains (fold name)))) := Lib.hid (by unfold tstB; rw [HN9.out])
  go_upto_region 7 with fail
  go_cut [8, 46] (fun s8 a wx => s8 = .string (bs (fold name)) ∧ a = .bool (tstB u name) ∧ wx = w9)
  case first =>
    go_wp2_with fail
    all_goals
      go_meet
      case rel =>
        refine ⟨?_, congrArg Value.bool ?_, rfl⟩
        · first | rfl | rw [‹fold name = _›]
        · rw [HT.out]
          first | (rw [‹fold name = _›]; simp [hopR, *]; done) | (simp [hopR, *]; done) | (cases hq : (fold name == [99, 111, 110, 110, 101, 99, 116, 105, 111, 110]) <;> simp_all [hopR])
  case rest =>
    obtain ⟨rfl, rfl, rfl⟩ := hcut
    have HWL : Hid (wantL l u name = if tstB u name = true then valuesL u name else valuesL l name) := Lib.hid rfl
    go_upto_if 46 with fail
    go_cut [9, 46] (fun v a wx => ∃ A' n' c', v = .slice A' n' c' ∧ a = .bool (tstB u name) ∧ RdS wc A' n' (wantL l u name) ∧ n' ≤ 1048576 ∧ wx = wc)
    case first =>
      cases htst : tstB u name
      · have HX : Hid (wantL l u name = valuesL l name) := Lib.hid (by rw [HWL.out, htst]; rfl)
        go_wp2_with fail
        go_meet
        case rel => exact ⟨A7, n7, c7, rfl, congrArg Value.bool htst.symm, by rw [HX.out]; exact r79, hn7, rfl⟩
      · have HX : Hid (wantL l u name = valuesL u name) := Lib.hid (by rw [HWL.out, htst]; rfl)
        go_wp2_with fail
        go_meet
        case rel => exact ⟨A9, n9, c9, rfl, congrArg Value.bool htst.symm, by rw [HX.out]; exact r9, hn9, rfl⟩
    case rest =>
      obtain ⟨A', n', c', rfl, rfl, hrw, hnw, rfl⟩ := hcut
      by_cases hbig : 100 < n + m
      · by_cases hn100 : n4 ≤ 100
        · go_wp2_with fail
          go_ret
          exact ⟨ret_bool (by simp), b9⟩
        · have HE : Hid (mergeL l u = l) := Lib.hid (merge_big l u (by rw [HN4.out]; omega))
          go_wp2_with fail
          refine (sameFields_any A4 A n4 n c4 c _ _ _ r49 (hA.step b9) (by omega) (by omega)).mono ?_
          rintro e w10 ⟨rfl, hb10⟩
          rw [HE.out]
          go_wp2
          go_ret
          exact ⟨ret_bool (by simp), bnext b9 hb10 b9.size⟩
      · have hsm : l.length + u.length ≤ 100 := by rw [HLA.out, HLB.out]; omega
        have HV : Hid (valuesL (mergeL l u) name = wantL l u name) := Lib.hid (by rw [merge_small hsm]; exact values_out l u name)
        have HAg := Lib.hid (merge_again hsm)
        clear hsm
        go_wp2_with fail
        refine (values_own A4 n4 c4 _ name _ r49 (by omega) fM (by omega)).mono ?_
        rintro e w10 ⟨A10, n10, c10, rfl, ho10, hb10⟩
        have b10 := bnext b9 hb10 b9.size
        have hn10 : n10 ≤ 140737488355328 := by have := ho10.rd.1; have := values_le (mergeL l u) name; have := HN4.out; omega
        go_wp2_with fail
        refine (sameTexts_any A10 A' n10 n' c10 c' _ _ _ ho10.rd (hrw.step hb10) hn10 (by omega)).mono ?_
        rintro e w11 ⟨rfl, hb11⟩
        have b11 := bnext b10 hb11 b10.size
        have r411 := (r49.step hb10).step hb11
        rw [HV.out]
        have E1 : (wantL l u name == wantL l u name) = true := by simp
        rw [E1]
        clear E1
        go_wp2_with fail
        refine (copyFields_any A4 n4 c4 _ _ r411 (by omega)).mono ?_
        rintro e w12 ⟨A12, n12, c12, rfl, hr12, hb12⟩
        have b12 := bnext b11 hb12 b11.size
        have hn12 : n12 ≤ 2097152 := by have := hr12.1; have := HN4.out; omega
        go_wp2_with fail
        refine (copyFields_any B m d u _ (hB.step b12) (by omega)).mono ?_
        rintro e w13 ⟨A13, n13, c13, rfl, hr13, hb13⟩
        have b13 := bnext b12 hb13 b12.size
        have hn13 : n13 ≤ 1048576 := by have := hr13.1; have := HLB.out; omega
        go_wp2_with fail
        refine (merge_p A12 A13 n12 c12 n13 c13 _ u _ (hr12.step hb13) hr13 (by omega) fM fB).mono ?_
        rintro e w14 ⟨A14, n14, c14, rfl, ho14, hb14⟩
        have b14 := bnext b13 hb14 b13.size
        have hn14 : n14 ≤ 140737488355328 := by have h1 := ho14.rd.1; rw [HAg.out] at h1; have := HN4.out; omega
        go_wp2_with fail
        refine (sameFields_any A14 A4 n14 n4 c14 c4 _ _ _ ho14.rd (((r411.step hb12).step hb13).step hb14) hn14 (by omega)).mono ?_
        rintro e w15 ⟨rfl, hb15⟩
        rw [HAg.out]
        go_wp2
        go_ret
        exact ⟨ret_bool (by simp), bnext b14 hb15 b14.size⟩

theorem own : ownKnob Try.prog.godebug = none := by kernel_rfl
theorem contract (H : Type) (enc : TypeId × Value → H) (W : World) (base : Nat) (args : Array Value) (ds gs : List (DataW H)) (before : List MemPlace)
    (hval : ∀ (j : Nat) t v, Try.f6.params[j]? = some t → args[j]? = some v → Value.okWide Try.prog W .any base t v)
    (hW : DataW.Whole enc Try.prog Try.f6.params.toList Rows.validMergedSpec.vars false W args.toList ds gs before) (hk : Rows.uptoSmall H (ds ++ gs) = true) :
    Calls Try.prog 6 args W fun e W' => ∃ v, e = .returned v ∧ Rows.validMergedSpec.post enc Try.prog Try.f6 false true false false W args v W' := by
  have hW' := hW
  obtain ⟨p, q, hA0, hV, rfl, hfz, hnd⟩ := hW
  have hA : DataW.TrodAll enc Try.prog W 0 (fun _ => true) true Try.f6.params.toList args.toList ds p := hA0
  rw [Try.params6] at hA hval
  obtain ⟨v0, vs0, d0, ds0, p0, q0, hargs, rfl, rfl, h0, r0⟩ := trodAll_cons hA
  obtain ⟨v1, vs1, d1, ds1, p1, q1, rfl, rfl, rfl, h1, r1⟩ := trodAll_cons r0
  obtain ⟨v2, vs2, d2, ds2, p2, q2, rfl, rfl, rfl, h2, r2⟩ := trodAll_cons r1
  obtain ⟨rfl, rfl, rfl⟩ := trodAll_nil r2
  obtain rfl : args = #[v0, v1, v2] := by cases args; simp_all
  obtain ⟨rfl, rfl⟩ := trodVars_none hV
  have hall := bulks.bound hk
  simp only [List.append_nil, Rows.uptoBulkAll] at hall
  have hb0 : Rows.uptoBulk d0 ≤ 1048576 := by omega
  have hb1 : Rows.uptoBulk d1 ≤ 1048576 := by omega
  have hb2 : Rows.uptoBulk d2 ≤ 1048576 := by omega
  clear hall
  obtain ⟨A0, n0, c0, l0, rfl, hr0, hn0, hf0⟩ := opF (hval 0 27 v0 rfl rfl) h0 hb0
  obtain ⟨A1, n1, c1, l1, rfl, hr1, hn1, hf1⟩ := opF (hval 1 27 v1 rfl rfl) h1 hb1
  obtain ⟨s2, rfl, e2⟩ := opS (hval 2 9 v2 rfl rfl) h2
  have hl2 : s2.length ≤ 1048576 := by have := hb2; rw [e2, bulks.string_eq] at this; omega
  clear hA0
  refine (walk W A0 n0 c0 l0 hr0 hn0 hf0 A1 n1 c1 l1 hr1 hn1 hf1 s2 hl2).mono fun e W' ⟨he, hg⟩ => ?_
  subst he
  exact ⟨_, rfl, post_of_below (pa := p0 ++ (p1 ++ (p2 ++ ([])))) (pv := []) hW' (fun _ _ _ => (trodAll_cons_mk (shut_bool Try.underlying4 _) trodAll_mk0)) (fun sp hsp => (trodAll_cons_mk (arg_stays laidOut (by kernel_rfl) (of_decide_eq_true (by kernel_rfl)) h0 hg (fun x hx => hW'.lt x (by simp [hx])) sp (fun x hx => hsp x (by simp [hx]))) (trodAll_cons_mk (arg_stays laidOut (by kernel_rfl) (of_decide_eq_true (by kernel_rfl)) h1 hg (fun x hx => hW'.lt x (by simp [hx])) sp (fun x hx => hsp x (by simp [hx]))) (trodAll_cons_mk (arg_stays laidOut (by kernel_rfl) (of_decide_eq_true (by kernel_rfl)) h2 hg (fun x hx => hW'.lt x (by simp [hx])) sp (fun x hx => hsp x (by simp [hx]))) trodAll_mk0)))) (fun _ _ => rfl) rfl
    hg (ok_one (by kernel_rfl) rfl (okWide_bool_mk Try.underlying4 _))⟩

set_option maxRecDepth 100000 in
theorem lifted (os : Os) (started : os.Started) (H : Type) (enc : TypeId × Value → H) (F : Stop.Interp) :
    ReturnsInHanded {} Try.checked os 6 .any ((Rows.OpenSpec.upto Rows.validMergedSpec).pre6 enc Try.prog Try.f6 Rows.validMergedUptoRow.domain false) (((Rows.OpenSpec.upto Rows.validMergedSpec).at F).post enc Try.prog Try.f6 false true false false) := by
  refine returnsInHanded_of_cond (C := Try.checked) (s := Rows.OpenSpec.upto Rows.validMergedSpec) (k := Rows.uptoSmall) rfl own started (by kernel_rfl) Try.func6
    (OpenSpec.witness (enc := enc) (C := Try.checked) (s := Rows.OpenSpec.upto Rows.validMergedSpec) (k := Rows.uptoSmall) rfl false ⟨#[], #[.slice none 0 0, .slice none 0 0, .string ⟨#[]⟩], []⟩ 8 (by kernel_rfl) (by kernel_rfl) (by kernel_rfl)
      (x := ([.nil, .nil, .lit (.string [])], [], [])) (by kernel_rfl) rfl (by kernel_rfl)) ?_
  intro W base args ds gs before hval hW _ hk _
  exact contract H enc W base args ds gs before hval hW hk

theorem over : Rows.validMergedUptoRow.holds Try.pinned (Rows.OpenSpec.upto Rows.validMergedSpec) :=
  OpenClaim.holds_of_cond 6 Try.f6 rfl rfl rfl rfl rfl rfl rfl ⟨rfl, rfl, rfl, rfl, rfl⟩ rfl rfl rfl rfl rfl (by kernel_rfl) Try.func6 (by kernel_rfl)
    (of_decide_eq_true (by kernel_rfl)) (by unfold Func.isWrapper; first | (rw [if_pos (by decide +kernel)]; kernel_rfl) | (rw [if_neg (by decide +kernel)]; exact ⟨rfl, rfl⟩))
    (fun os started H enc _ F => lifted os started H enc F)

theorem proved : Rows.ValidMergedUptoSaid :=
  over
end Go.Proofs.Ytbigcdmkfcmegaa.validMerged
