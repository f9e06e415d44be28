/- FrameSame: for every input within the second form's bound the law answers true and leaves its arguments as they were. Condition: the bulk of the arguments at most 1048576. -/
import Derived.Test.YtocgnjkikgcjdaaDoorCards
import Derived.Test.YtocgnjkikgcjdaaDoorTie
import Derived.Test.YtocgnjkikgcjdaaDoorFrmP
import Derived.Test.YtocgnjkikgcjdaaDoorOpenR
import Derived.Deep.RegionHeld3
import Derived.Deep.Cut
import Derived.Deep.DeepCutAuto
import Derived.Test.YtocgnjkikgcjdaaDoorOpen
import Derived.Test.YtocgnjkikgcjdaaDoorBulk
import Derived.WalkKit
import Derived.ProofKit
import Derived.OpenShut
import Derived.JoinedCond
import Derived.Deep.DeepHandedRow
import Derived.Deep.DeepWitnessRowRef
import Derived.Lib.LaidTab
set_option linter.unusedVariables false
set_option linter.unusedSimpArgs false
set_option maxRecDepth 100000
namespace Go.Proofs.YtocgnjkikgcjdaaDoor.frameSame
open Go.ChangeShapes Go.WideShapes Go.ChangeAt Go.RowKit

theorem none_len {minor : Int} {l : List Fld} (h : (ruleL minor l 0).2.2 = 0) (h2 : (ruleL minor l 0).1 = 0) : (ruleL minor l 0).2.1 = 0 := by
  unfold ruleL at *
  split
  · split
    · rfl
    · split <;> rfl
  · split
    · rfl
    · split
      · rename_i a b c; rw [if_neg a, if_neg b, if_pos c] at h2; simp at h2
      · rfl
theorem samebare {st : Int} {m : List UInt8} (h : bareL st m = true) : (m == [72, 69, 65, 68]) = true ∨ (m == [72, 69, 65, 68]) = false ∧ ((st == 204) = true ∨ (st == 204) = false ∧ ((st == 304) = true ∨ (st == 304) = false ∧ ((100 ≤ st ∧ st < 200) ∨ ((m == [67, 79, 78, 78, 69, 67, 84]) = true ∧ 200 ≤ st ∧ st < 300)))) := by
  unfold bareL mHEAD mCONN at h
  grind
theorem samefull {st : Int} {m : List UInt8} (h : bareL st m = false) : (m == [72, 69, 65, 68]) = false ∧ (st == 204) = false ∧ (st == 304) = false ∧ ((st < 100 ∧ (m == [67, 79, 78, 78, 69, 67, 84]) = false) ∨ (st < 100 ∧ (m == [67, 79, 78, 78, 69, 67, 84]) = true) ∨ (200 ≤ st ∧ (m == [67, 79, 78, 78, 69, 67, 84]) = false) ∨ (300 ≤ st ∧ (m == [67, 79, 78, 78, 69, 67, 84]) = true)) := by
  unfold bareL mHEAD mCONN at h
  grind
theorem ofW0 {W0 W : World} {p q : Addr} {u v : Value} {A : Option Addr} {n : Nat} {l : List Fld} (h : W0.cell? p = some u ∧ W0.cell? q = some v ∧ RdF W0 A n l) (hb : Below W0.heap.size W0 W) : W.cell? p = some u ∧ W.cell? q = some v ∧ RdF W A n l ∧ Below W0.heap.size W0 W :=
  ⟨(hb.cell (World.block_lt_of_cell? W0 _ h.1)).trans h.1, (hb.cell (World.block_lt_of_cell? W0 _ h.2.1)).trans h.2.1, h.2.2.step hb, hb⟩
theorem two_set {w : World} {g : Nat} {a b x y : Value} {t : TypeId} (h : w.heap[g]? = some (.cells #[a, b] t (0, 0))) : ((w.setCell ⟨g, 0, none⟩ x).setCell ⟨g, 1, none⟩ y).cell? ⟨g, 0, none⟩ = some x ∧ ((w.setCell ⟨g, 0, none⟩ x).setCell ⟨g, 1, none⟩ y).cell? ⟨g, 1, none⟩ = some y := by
  constructor <;> simp [World.setCell, World.cell?, Array.getElem?_modify, h]
theorem ofReqQ (minor : Int) (A : Option Addr) (n c : Nat) (l : List Fld) (w : World) (hl : RdF w A n l) (hn : n ≤ 1048576) (hls : FlenS l) {x y z : Int} (hq : ruleL minor l 0 = (x, y, z)) :
    Calls Tryd.prog 15 #[.agg #[.string ⟨#[]⟩, .string ⟨#[]⟩, .int .i64 minor, .slice A n c]] w fun e w' => e = .returned (.tuple #[.agg #[.int .i64 x, .int .i64 y], .int .i64 z]) ∧ Below w.heap.size w w' := by
  have h := ofRequest_any [] [] minor A n c l w hl hn hls
  rw [hq] at h
  exact h
set_option maxRecDepth 100000 in
set_option maxHeartbeats 2000000 in
theorem walk (w : World) (st : Int) (hst1 : -9223372036854775808 ≤ st) (hst2 : st ≤ 9223372036854775807) (rs : List UInt8) (minor : Int) (A : Option Addr) (n c : Nat) (l : List Fld) (hA : RdF w A n l) (hn : n + 3 ≤ 1048576) (hf : ∀ f ∈ l, f.1.length ≤ 1048576 ∧ f.2.length ≤ 1048576) (hnc : n ≤ c) (hcm : c ≤ maxLen) (m : List UInt8) (hm : m.length ≤ 1048576) :
    Calls Tryd.prog 8 #[respV st rs minor A n c, .string (bs m)] w fun e w' => e = .returned (.bool true) ∧ Below w.heap.size w w' := by
  unfold respV
  replace hn : n ≤ 1048576 := by omega
  have hal := alloc_below w (.cells #[.int .i64 st, .string (bs rs), .int .i64 minor, .slice A n c] 46)
  have hr0 := heap_alloc_new w (.cells #[.int .i64 st, .string (bs rs), .int .i64 minor, .slice A n c] 46)
  have hl0 := hA.step hal
  clear hA
  go_enter Tryd.func8, Tryd.ntmps8
  go_wp2_with fail
  refine (alive_any _).mono ?_
  rintro e w1 ⟨rfl, hb1⟩
  have hr1 := row_keep hr0 hb1
  have hl1 := hl0.step hb1
  have hbA := bnext hal hb1 hal.size
  clear hal hr0 hl0 hb1
  obtain ⟨a0, a1, a2, a3, -⟩ := row_facts4 hr1
  go_wp2_with fail
  refine (copyResponse_any st rs minor A n c l w1 hl1 hn).mono ?_
  rintro e w2 ⟨A', n', c', rfl, hl2', hb2⟩
  unfold respV
  have hn' : n' ≤ 1048576 := by have := hl2'.1; have := hl1.1; omega
  have hr2 := row_keep hr1 hb2
  have hl2 := hl1.step hb2
  have hbB := bnext hbA hb2 hbA.size
  have hO := ofResponse_any st rs minor A' n' c' l m _ hst1 hst2 hl2' hn' hf
  clear hr1 hl1 hbA hb2 a0 a1 a2 a3
  unfold respO at hO
  generalize hQ : respL st m minor l = q at *
  have HQ := Lib.hid hQ
  clear hQ
  obtain ⟨x, y, z⟩ := q
  unfold bodyV respV at hO
  dsimp only at hO
  go_wp2_with fail
  refine hO.mono ?_
  rintro e w4 ⟨rfl, hb4⟩
  have hr4 := row_keep hr2 hb4
  have hl4 := hl2.step hb4
  have hbD := bnext hbB hb4 hbB.size
  have hal := alloc_below w4 (.cells #[.int .i64 x, .int .i64 y] 31)
  have hu5 := heap_alloc_new w4 (.cells #[.int .i64 x, .int .i64 y] 31)
  have hr5 := row_keep hr4 hal
  have hl5 := hl4.step hal
  have hbE := bnext hbD hal hbD.size
  obtain ⟨a0, a1, a2, a3, -⟩ := row_facts4 hr5
  clear hr2 hl2 hl2' hbB hb4 hr4 hl4 hbD hal hO
  generalize hQ2 : ruleL minor l 0 = q2
  have HQ2 := Lib.hid hQ2
  clear hQ2
  obtain ⟨x2, y2, z2⟩ := q2
  have hg5 : w4.heap.size < (w4.alloc (.cells #[.int .i64 x, .int .i64 y] 31)).heap.size := by simp
  go_upto_region 4 with fail
  generalize w4.alloc (.cells #[.int .i64 x, .int .i64 y] 31) = W0 at *
  generalize w4.heap.size = g5 at *
  go_cut [7, 8] (fun cc f wx => ∃ g, cc = .pointer (some ⟨g, 0, none⟩) ∧ f = .int .i64 z2 ∧ wx.cell? ⟨g, 0, none⟩ = some (.int .i64 x2) ∧ wx.cell? ⟨g, 1, none⟩ = some (.int .i64 y2) ∧ Below W0.heap.size W0 wx)
  case first =>
    have hB5 : Below W0.heap.size W0 W0.drew := (Below.refl _ _).drew
    have hK0 : W0.cell? ⟨w.heap.size, 2, none⟩ = some (.int .i64 minor) ∧ W0.cell? ⟨w.heap.size, 3, none⟩ = some (.slice A n c) ∧ RdF W0 A n l := ⟨a2, a3, hl5⟩
    have hB5a : Below W0.heap.size W0 (W0.alloc (.cells #[.int .i64 0, .int .i64 0] 31)).drew := (alloc_below _ _).drew
    have hZ5a := heap_alloc_new W0 (.cells #[.int .i64 0, .int .i64 0] 31)
    have hC := copyFields_own A n c l _ (hl5.step hB5) (by omega)
    have hCa := copyFields_own A n c l _ (hl5.step hB5a) (by omega)
    have HF := Lib.hid hf
    go_region_held3 (fun w' => w'.cell? ⟨w.heap.size, 2, none⟩ = some (.int .i64 minor) ∧ w'.cell? ⟨w.heap.size, 3, none⟩ = some (.slice A n c) ∧ RdF w' A n l ∧ Below W0.heap.size W0 w')
      ((first | exact ofW0 hK0 hB5 | exact ofW0 hK0 hB5a | exact ofW0 hK0 hB6 | exact ofW0 hK0 (hB6.alloc hB6.size _) | exact ofW0 hK0 hB7 | exact ofW0 hK0 (hB7.alloc hB7.size _) | exact ofW0 hK0 (hB7.setCell (p := ⟨_, _, none⟩) hB6.size _) | exact ofW0 hK0 ((hB7.setCell (p := ⟨_, _, none⟩) hB6.size _).setCell (p := ⟨_, _, none⟩) hB6.size _) | exact ofW0 hK0 hB6a | exact ofW0 hK0 hB7a | exact ofW0 hK0 (hB7a.setCell (p := ⟨_, _, none⟩) (Nat.le_refl _) _) | exact ofW0 hK0 ((hB7a.setCell (p := ⟨_, _, none⟩) (Nat.le_refl _) _).setCell (p := ⟨_, _, none⟩) (Nat.le_refl _) _)))
      ((first
        | (go_at_call 10; (with_reducible refine hC.mono ?_); rintro e w6 ⟨A6, n6, c6, rfl, hown, hb6⟩; have hB6 := bnext hB5 hb6 hB5.size)
        | (go_at_call 10; (with_reducible refine hCa.mono ?_); rintro e w6a ⟨A6, n6, c6, rfl, hown, hb6⟩; have hB6a := bnext hB5a hb6 hB5a.size; have hZ6a := row_keep (w := (W0.alloc (.cells #[.int .i64 0, .int .i64 0] 31)).drew) hZ5a hb6)
        | (go_at_call 15; have hrd6 := hown.rd; have hc1 := ofReqQ minor A6 n6 c6 l w6a hrd6 (by have := hrd6.1; have := hl5.1; omega) HF.out HQ2.out; (with_reducible refine hc1.mono ?_); rintro e w7 ⟨rfl, hb7⟩; have hB7a := bnext hB6a hb7 hB6a.size; have hR7 := row_keep hZ6a hb7; obtain ⟨u0, u1, u2, u3⟩ := res_facts hR7; have HR7 := Lib.hid hR7; clear hR7)
        | (go_at_call 15; have hrd6 := hown.rd; have hc1 := ofReqQ minor A6 n6 c6 l (w6.alloc (.cells #[.int .i64 0, .int .i64 0] 31)) (hrd6.step (alloc_below _ _)) (by have := hrd6.1; have := hl5.1; omega) HF.out HQ2.out; (with_reducible refine hc1.mono ?_); rintro e w7 ⟨rfl, hb7⟩; have hB7 := bnext (hB6.alloc hB6.size _) hb7 (hB6.alloc hB6.size _).size; have hR7 := row_keep (heap_alloc_new w6 (.cells #[.int .i64 0, .int .i64 0] 31)) hb7; obtain ⟨u0, u1, u2, u3⟩ := res_facts hR7; have HR7 := Lib.hid hR7; clear hR7)
        | (go_at_call 15; have hrd6 := hown.rd; have hc1 := ofReqQ minor A6 n6 c6 l w6 hrd6 (by have := hrd6.1; have := hl5.1; omega) HF.out HQ2.out; (with_reducible refine hc1.mono ?_); rintro e w7 ⟨rfl, hb7⟩; have hB7 := bnext hB6 hb7 hB6.size)))
    all_goals
      go_wp2_with fail
      go_meet
      case rel =>
        first
          | exact ⟨_, rfl, rfl, by rw [cell_of_row _ _ _ _ _ _ (heap_alloc_new w7 _)]; rfl, by rw [cell_of_row _ _ _ _ _ _ (heap_alloc_new w7 _)]; rfl, hB7.alloc hB7.size _⟩
          | exact ⟨_, rfl, rfl, (two_set HR7.out).1, (two_set HR7.out).2, (hB7.setCell (p := ⟨_, _, none⟩) hB6.size _).setCell (p := ⟨_, _, none⟩) hB6.size _⟩
          | exact ⟨_, rfl, rfl, (two_set HR7.out).1, (two_set HR7.out).2, (hB7a.setCell (p := ⟨_, _, none⟩) (Nat.le_refl _) _).setCell (p := ⟨_, _, none⟩) (Nat.le_refl _) _⟩
  case rest =>
    obtain ⟨g, rfl, rfl, d0, d1, hBc⟩ := hcut
    have hbF := bnext hbE hBc hbE.size
    obtain ⟨b0, b1, -, -⟩ := res_facts (row_keep hu5 hBc)
    obtain ⟨r0, r1, r2, r3, -⟩ := row_facts4 (row_keep hr5 hBc)
    have HB := Lib.hid hbF
    have hg := eqg_body
    clear hr5 hl5 hbE hu5 hg5 hBc hbF a0 a1 a2 a3
    cases hbare : bareL st m
    · obtain ⟨d2, d3, d4, d5⟩ := samefull hbare
      have hx : (x, y, z) = ruleL minor l 3 := by rw [← HQ.out]; unfold respL; rw [if_neg (by rw [hbare]; decide)]
      have ho := ruleL_other minor l
      rw [HQ2.out, ← hx] at ho
      dsimp only at ho
      have hnl := none_len (minor := minor) (l := l)
      rw [HQ2.out] at hnl
      dsimp only at hnl
      by_cases hcs : z2 = 0 ∧ x2 = 0
      · rw [if_pos hcs] at ho
        obtain ⟨rfl, rfl⟩ := hcs
        obtain rfl := hnl rfl rfl
        simp only [Prod.mk.injEq] at ho
        obtain ⟨rfl, rfl, rfl⟩ := ho
        have hq := eql_body 3 0 3 0
        clear hx hnl hbare HQ HQ2
        rcases d5 with ⟨e1, e2⟩ | ⟨e1, e2⟩ | ⟨e1, e2⟩ | ⟨e1, e2⟩
        all_goals
          go_wp2
          go_ret
          exact ⟨rfl, HB.out⟩
      · rw [if_neg hcs] at ho
        simp only [Prod.mk.injEq] at ho
        obtain ⟨rfl, rfl, rfl⟩ := ho
        have hq := eql_body x y x y
        have hc2 : (z == 0) = false ∨ (z == 0) = true ∧ (x == 0) = false := by
          by_cases e : z = 0
          · refine .inr ⟨by simp [e], ?_⟩
            have : x ≠ 0 := fun e2 => hcs ⟨e, e2⟩
            simp [this]
          · exact .inl (by simp [e])
        clear hx hnl hbare HQ HQ2 hcs
        rcases d5 with ⟨e1, e2⟩ | ⟨e1, e2⟩ | ⟨e1, e2⟩ | ⟨e1, e2⟩
        all_goals rcases hc2 with e3 | ⟨e3, e4⟩
        all_goals
          go_wp2
          go_ret
          exact ⟨by simp, HB.out⟩
    · have hx : (x, y, z) = (0, 0, 0) := by rw [← HQ.out]; unfold respL; rw [if_pos hbare]
      simp only [Prod.mk.injEq] at hx
      obtain ⟨rfl, rfl, rfl⟩ := hx
      have hq := eql_body 0 0 0 0
      have hcs := samebare hbare
      clear hbare HQ HQ2
      rcases hcs with d2 | ⟨d2, d3 | ⟨d3, d4 | ⟨d4, ⟨d5, d6⟩ | ⟨d5, d6, d7⟩⟩⟩⟩
      all_goals
        go_wp2
        go_ret
        exact ⟨rfl, HB.out⟩

theorem own : ownKnob Tryd.prog.godebug = none := by kernel_rfl
theorem contract (H : Type) (enc : TypeId × Value → H) (W : World) (base : Nat) (args : Array Value) (ds gs : List (DataW H)) (before : List MemPlace)
    (hval : ∀ (j : Nat) t v, Tryd.f8.params[j]? = some t → args[j]? = some v → Value.okWide Tryd.prog W .any base t v)
    (hW : DataW.Whole enc Tryd.prog Tryd.f8.params.toList Rows.frameSameSpec.vars false W args.toList ds gs before) (hk : Rows.uptoSmall H (ds ++ gs) = true) :
    Calls Tryd.prog 8 args W fun e W' => ∃ v, e = .returned v ∧ Rows.frameSameSpec.post enc Tryd.prog Tryd.f8 false true false false W args v W' := by
  have hW' := hW
  obtain ⟨p, q, hA0, hV, rfl, hfz, hnd⟩ := hW
  have hA : DataW.TrodAll enc Tryd.prog W 0 (fun _ => true) true Tryd.f8.params.toList args.toList ds p := hA0
  rw [Tryd.params8] at hA hval
  obtain ⟨v0, vs0, d0, ds0, p0, q0, hargs, rfl, rfl, h0, r0⟩ := trodAll_cons hA
  obtain ⟨v1, vs1, d1, ds1, p1, q1, rfl, rfl, rfl, h1, r1⟩ := trodAll_cons r0
  obtain ⟨rfl, rfl, rfl⟩ := trodAll_nil r1
  obtain rfl : args = #[v0, v1] := by cases args; simp_all
  obtain ⟨rfl, rfl⟩ := trodVars_none hV
  have hall := bulks.bound hk
  simp only [List.append_nil, Rows.uptoBulkAll] at hall
  have hb0 : Rows.uptoBulk d0 ≤ 1048576 := by omega
  have hb1 : Rows.uptoBulk d1 ≤ 1048576 := by omega
  clear hall
  obtain ⟨st0, rs0, x0, A0, n0, c0, l0, rfl, hr0, hn0, hf0, hc0, hd0, hs0, ht0⟩ := opResp (hval 0 46 v0 rfl rfl) h0 hb0
  obtain ⟨s1, rfl, e1⟩ := opS (hval 1 9 v1 rfl rfl) h1
  have hl1 : s1.length ≤ 1048576 := by have := hb1; rw [e1, bulks.string_eq] at this; omega
  clear hA0
  refine (walk W st0 hs0 ht0 rs0 x0 A0 n0 c0 l0 hr0 hn0 hf0 hc0 hd0 s1 hl1).mono fun e W' ⟨he, hg⟩ => ?_
  subst he
  exact ⟨_, rfl, post_of_below (pa := p0 ++ (p1 ++ ([]))) (pv := []) hW' (fun _ _ _ => (trodAll_cons_mk (shut_bool Tryd.underlying4 _) trodAll_mk0)) (fun sp hsp => (trodAll_cons_mk (arg_stays laidOut (by kernel_rfl) (of_decide_eq_true (by kernel_rfl)) h0 hg (fun x hx => hW'.lt x (by simp [hx])) sp (fun x hx => hsp x (by simp [hx]))) (trodAll_cons_mk (arg_stays laidOut (by kernel_rfl) (of_decide_eq_true (by kernel_rfl)) h1 hg (fun x hx => hW'.lt x (by simp [hx])) sp (fun x hx => hsp x (by simp [hx]))) trodAll_mk0))) (fun _ _ => rfl) rfl
    hg (ok_one (by kernel_rfl) rfl (okWide_bool_mk Tryd.underlying4 _))⟩

/-- A world for the witness: the settled one, the listed variables holding what the program lays. -/
noncomputable def laidWorld (os : Os) : World :=
  { (World.holding Tryd.prog os ⟨#[.cells #[.string ⟨#[118, 97, 108, 117, 101, 32, 111, 117, 116, 32, 111, 102, 32, 114, 97, 110, 103, 101]⟩] 119, .cells #[.string ⟨#[105, 110, 118, 97, 108, 105, 100, 32, 115, 121, 110, 116, 97, 120]⟩] 119], #[], []⟩) with heap := ((((((((World.holding Tryd.prog os ⟨#[.cells #[.string ⟨#[118, 97, 108, 117, 101, 32, 111, 117, 116, 32, 111, 102, 32, 114, 97, 110, 103, 101]⟩] 119, .cells #[.string ⟨#[105, 110, 118, 97, 108, 105, 100, 32, 115, 121, 110, 116, 97, 120]⟩] 119], #[], []⟩).heap.modify 6 fun
      | .cells _ t frozen => .cells #[.int .u8 0, .int .u8 1, .int .u8 28, .int .u8 2, .int .u8 29, .int .u8 14, .int .u8 24, .int .u8 3, .int .u8 30, .int .u8 22, .int .u8 20, .int .u8 15, .int .u8 25, .int .u8 17, .int .u8 4, .int .u8 8, .int .u8 31, .int .u8 27, .int .u8 13, .int .u8 23, .int .u8 21, .int .u8 19, .int .u8 16, .int .u8 7, .int .u8 26, .int .u8 12, .int .u8 18, .int .u8 6, .int .u8 11, .int .u8 5, .int .u8 10, .int .u8 9] t frozen
      | o => o).modify 7 fun
      | .cells _ t frozen => .cells #[.int .u8 0, .int .u8 1, .int .u8 56, .int .u8 2, .int .u8 57, .int .u8 49, .int .u8 28, .int .u8 3, .int .u8 61, .int .u8 58, .int .u8 42, .int .u8 50, .int .u8 38, .int .u8 29, .int .u8 17, .int .u8 4, .int .u8 62, .int .u8 47, .int .u8 59, .int .u8 36, .int .u8 45, .int .u8 43, .int .u8 51, .int .u8 22, .int .u8 53, .int .u8 39, .int .u8 33, .int .u8 30, .int .u8 24, .int .u8 18, .int .u8 12, .int .u8 5, .int .u8 63, .int .u8 55, .int .u8 48, .int .u8 27, .int .u8 60, .int .u8 41, .int .u8 37, .int .u8 16, .int .u8 46, .int .u8 35, .int .u8 44, .int .u8 21, .int .u8 52, .int .u8 32, .int .u8 23, .int .u8 11, .int .u8 54, .int .u8 26, .int .u8 40, .int .u8 15, .int .u8 34, .int .u8 20, .int .u8 31, .int .u8 10, .int .u8 25, .int .u8 14, .int .u8 19, .int .u8 9, .int .u8 13, .int .u8 8, .int .u8 7, .int .u8 6] t frozen
      | o => o).modify 5 fun
      | .cells _ t frozen => .cells #[.int .u64 1, .int .u64 10, .int .u64 100, .int .u64 1000, .int .u64 10000, .int .u64 100000, .int .u64 1000000, .int .u64 10000000, .int .u64 100000000, .int .u64 1000000000, .int .u64 10000000000, .int .u64 100000000000, .int .u64 1000000000000, .int .u64 10000000000000, .int .u64 100000000000000, .int .u64 1000000000000000, .int .u64 10000000000000000, .int .u64 100000000000000000, .int .u64 1000000000000000000, .int .u64 10000000000000000000] t frozen
      | o => o).modify 4 fun
      | .cells _ t frozen => .cells #[.int .u8 128, .int .u8 191, .int .u8 160, .int .u8 191, .int .u8 128, .int .u8 159, .int .u8 144, .int .u8 191, .int .u8 128, .int .u8 143, .int .u8 0, .int .u8 0, .int .u8 0, .int .u8 0, .int .u8 0, .int .u8 0, .int .u8 0, .int .u8 0, .int .u8 0, .int .u8 0, .int .u8 0, .int .u8 0, .int .u8 0, .int .u8 0, .int .u8 0, .int .u8 0, .int .u8 0, .int .u8 0, .int .u8 0, .int .u8 0, .int .u8 0, .int .u8 0] t frozen
      | o => o).modify 2 fun
      | .cells _ t frozen => .cells #[.iface 117 (.pointer (some ⟨(World.settled Tryd.prog os).heap.size + 0, 0, none⟩))] t frozen
      | o => o).modify 1 fun
      | .cells _ t frozen => .cells #[.iface 117 (.pointer (some ⟨(World.settled Tryd.prog os).heap.size + 1, 0, none⟩))] t frozen
      | o => o).modify 3 fun
      | .cells _ t frozen => .cells (Go.Pinned.utf8FirstZ.map fun (n : Nat) => Value.int .u8 (n : Int)).toArray t frozen
      | o => o) }
theorem laid_met (os : Os) : laidMet Tryd.prog Rows.frameSameUptoRow.laid ((laidWorld os).forCall (fun _ _ => 0) ⟨#[], #[.agg #[.int .i64 0, .string ⟨#[]⟩, .int .i64 0, .slice none 0 0], .string ⟨#[]⟩], []⟩).memory :=
  laidMet_of_run' 8 (by kernel_rfl) (by kernel_rfl)
theorem reads (os : Os) {H : Type} (enc : TypeId × Value → H) : ∃ places, DataW.whole enc Tryd.prog ((laidWorld os).forCall (fun _ _ => 0) ⟨#[], #[.agg #[.int .i64 0, .string ⟨#[]⟩, .int .i64 0, .slice none 0 0], .string ⟨#[]⟩], []⟩).memory Tryd.f8.params.toList Rows.frameSameSpec.vars false #[.agg #[.int .i64 0, .string ⟨#[]⟩, .int .i64 0, .slice none 0 0], .string ⟨#[]⟩].toList 8 = some ([.agg [.lit (.int .i64 0), .lit (.string []), .lit (.int .i64 0), .nil], .lit (.string [])], [], places) :=
  ⟨[], by kernel_rfl⟩

set_option maxRecDepth 100000 in
theorem liftedUpto (os : Os) (started : os.Started) (H : Type) (enc : TypeId × Value → H) (F : Stop.Interp) :
    ReturnsInHanded {} Tryd.checked os 8 .any ((Rows.OpenSpec.upto Rows.frameSameSpec).preRow enc Tryd.prog Tryd.f8 Rows.frameSameUptoRow.domain false Rows.frameSameUptoRow.laid) (((Rows.OpenSpec.upto Rows.frameSameSpec).at F).post enc Tryd.prog Tryd.f8 false true false false) := by
  obtain ⟨places, hx⟩ := reads os enc
  refine returnsInHanded_of_row (C := Tryd.checked) (s := Rows.OpenSpec.upto Rows.frameSameSpec) own started (by kernel_rfl) Tryd.func8
    (witness_row_atRef (enc := enc) (C := Tryd.checked) false (laidWorld os) #[.agg #[.int .i64 0, .string ⟨#[]⟩, .int .i64 0, .slice none 0 0], .string ⟨#[]⟩] rfl (by kernel_rfl) (by kernel_rfl) (by kernel_rfl)
      (OpenSpec.preRow_of_cond 8 hx (by kernel_rfl) (fun k hk => by cases hk; kernel_rfl) (by kernel_rfl) (laid_met os))) ?_
  intro W base args ds gs before hval hW _ hcond _ _ _ _
  exact contract H enc W base args ds gs before hval hW (hcond _ rfl)

theorem saidUpto : Rows.FrameSameUptoSaid :=
  OpenClaim.holds_of_cond 8 Tryd.f8 rfl rfl rfl rfl rfl rfl rfl ⟨rfl, rfl, rfl, rfl, rfl⟩ rfl rfl rfl rfl rfl (by kernel_rfl) Tryd.func8 (by kernel_rfl)
    (of_decide_eq_true (by kernel_rfl)) (by unfold Func.isWrapper; first | (rw [if_pos (by decide +kernel)]; kernel_rfl) | (rw [if_neg (by decide +kernel)]; exact ⟨rfl, rfl⟩))
    (fun os started H enc _ F => by rw [OpenClaim.pre_eq_preRow]; exact liftedUpto os started H enc F)

theorem plain (f : FuncId) (fn : Func) (hf : Tryd.pinned.checked.prog.funcNamed "conduit/conduitlaw06.FrameSame" = some f) (hfn : Tryd.pinned.checked.prog.funcs[f]? = some fn) :
    true = Tryd.pinned.checked.prog.looks [] ∧ ∀ (j : Nat) t, fn.params[j]? = some t → Tryd.pinned.checked.prog.wantsStandIn t = false := by
  obtain rfl : f = 8 := Option.some.inj ((show Tryd.prog.funcNamed "conduit/conduitlaw06.FrameSame" = some 8 by kernel_rfl).symm.trans hf) |>.symm
  obtain rfl : fn = Tryd.f8 := (Option.some.inj (Tryd.func8.symm.trans hfn)).symm
  refine ⟨by kernel_rfl, fun j t ht => ?_⟩
  rw [Tryd.params8] at ht
  have hm := Array.mem_of_getElem? ht
  simp only [List.mem_toArray, List.mem_cons, List.not_mem_nil, or_false] at hm
  rcases hm with rfl | rfl
  · exact (show Tryd.prog.wantsStandIn 46 = false by kernel_rfl)
  · exact (show Tryd.prog.wantsStandIn 9 = false by kernel_rfl)

theorem proved : Rows.FrameSameUptoCardSaid :=
  Claim7.holds_tied_plain_at .later [] _ _ _ _ saidUpto (fun _ h => by cases h) (by kernel_rfl) (fun _ h => by cases h) frameSameUpto_row_tie rfl ⟨rfl, rfl⟩ (by kernel_rfl) rfl plain (by kernel_rfl)
end Go.Proofs.YtocgnjkikgcjdaaDoor.frameSame
