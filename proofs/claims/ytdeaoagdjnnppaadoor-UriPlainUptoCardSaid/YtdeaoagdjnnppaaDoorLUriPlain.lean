/- UriPlain: for every input within the second form's bound the law answers true and leaves its arguments as they were. Condition: the bulk of the arguments at most 1048576. -/
import Derived.Test.YtdeaoagdjnnppaaDoorCards
import Derived.Test.YtdeaoagdjnnppaaDoorTie
import Derived.Test.YtdeaoagdjnnppaaDoorUrF
import Derived.Test.YtdeaoagdjnnppaaDoorUrR
import Derived.Test.YtdeaoagdjnnppaaDoorDet
import Derived.Test.YtdeaoagdjnnppaaDoorUrT
import Derived.Test.YtdeaoagdjnnppaaDoorBulk
import Derived.WalkKit
import Derived.ProofKit
import Derived.OpenShut
import Derived.JoinedCond
import Derived.Deep.DeepHandedRow
import Derived.Deep.DeepWitnessRowRef
import Derived.Lib.LaidTab
import Derived.Stop.LaidErr
import Derived.Lay
set_option linter.unusedVariables false
set_option linter.unusedSimpArgs false
set_option maxRecDepth 100000
namespace Go.Proofs.YtdeaoagdjnnppaaDoor.uriPlain
open Go.ChangeShapes Go.WideShapes Go.ChangeAt Go.RowKit

theorem parse_len {s : List UInt8} {t : Ur.Tgt} (hp : Ur.parseL s = (t, 0)) : t.1.length ≤ 4096 ∧ t.2.2.length ≤ 10000 := by
  have hg := Ur.parse_good hp
  refine ⟨Nat.le_trans (Ur.hostB_all hg.host).2.2 (by decide), ?_⟩
  unfold Ur.parseL at hp
  split at hp
  · cases hp
  rename_i h4
  split at hp
  · cases hp
  split at hp
  · cases hp
  obtain ⟨h1, h2, r, h3, rfl⟩ := Ur.behind_ok hp
  have h5 := dec_len _ h3
  have h6 : (Ur.restS (s.drop 7)).length ≤ s.length := Nat.le_trans (List.dropWhile_sublist _).length_le (by simp)
  have h7 := tidy_len (Ur.cutA 63 r)
  have h8 := Ur.cutA_le 63 r
  have h9 := Ur.cutR_le 63 r
  simp only [List.length_append]
  omega
/-- The pieces between strokes, from a place on. -/
theorem plain_piece {T : List UInt8} {f i : Nat} (hf : f + 1 ≤ i) (hi : i ≤ T.length) (hs : ∀ j, f + 1 ≤ j → j < i → T[j]? ≠ some 47) (hend : i = T.length ∨ T[i]? = some 47) :
    (T.take i).drop (f + 1) ∈ Ur.splitc 47 (T.drop (f + 1)) ∧ (i < T.length → ∀ p ∈ Ur.splitc 47 (T.drop (i + 1)), p ∈ Ur.splitc 47 (T.drop (f + 1))) := by
  have hfree : ∀ b ∈ (T.take i).drop (f + 1), b ≠ 47 := by
    intro b hb h47
    subst h47
    obtain ⟨j, hj, he⟩ := List.getElem_of_mem hb
    simp only [List.length_drop, List.length_take] at hj
    rw [List.getElem_drop, List.getElem_take] at he
    exact hs (f + 1 + j) (by omega) (by omega) (by rw [List.getElem?_eq_getElem (by omega), he])
  rcases hend with rfl | h47
  · rw [List.take_length] at hfree ⊢
    refine ⟨?_, fun h => absurd h (by omega)⟩
    rw [Ur.splitc_one hfree]; simp
  · have hlt : i < T.length := by
      rcases Nat.lt_or_ge i T.length with h | h
      · exact h
      · rw [List.getElem?_eq_none h] at h47; cases h47
    have e : T.drop (f + 1) = (T.take i).drop (f + 1) ++ 47 :: T.drop (i + 1) := by
      have h1 : T[i] = 47 := by rw [List.getElem?_eq_getElem hlt] at h47; exact Option.some.inj h47
      conv => lhs; rw [← List.take_append_drop i T]
      rw [List.drop_append, List.drop_eq_getElem_cons hlt, h1]
      have h2 : f + 1 - (T.take i).length = 0 := by simp; omega
      rw [h2]; rfl
    rw [e, Ur.splitc_of hfree]
    exact ⟨by simp, fun _ p hp => by simp [hp]⟩
theorem bs_sub (T : List UInt8) (a b : Nat) : ((T.drop a).take (b - a)) = (T.take b).drop a := by rw [List.drop_take]
set_option maxRecDepth 100000 in
set_option maxHeartbeats 4000000 in
theorem walk (w : World) (hM : MaxL w) (hE : ErrS w) (s : List UInt8) (hs : s.length ≤ 1048576) :
    Calls Tryd.prog 5 #[.string (bs s)] w fun e w' => e = .returned (.bool true) ∧ Below w.heap.size w w' := by
  have hA := alive_any w hM hE
  have hP := fun W hm he => parse_any s W hm he (by omega)
  have hG := fun t h => Ur.parse_good (s := s) (t := t) h
  have hLn := fun t h => parse_len (s := s) (t := t) h
  generalize Ur.parseL s = R at *
  obtain ⟨⟨th, tp, tt⟩, te⟩ := R
  unfold resV Ur.tgtV at hP
  dsimp only at hP
  by_cases hte : te = 0
  · subst hte
    have hg := hG _ rfl
    have hl := hLn _ rfl
    have hsm := hg.small
    have p1 := hg.p1
    have p2 := hg.p2
    obtain ⟨q, r, he, hr, hfree, -, -⟩ := hg.path
    have hho := Ur.hostB_all hg.host
    dsimp only at hsm p1 p2 hl he hho
    have hth := emp_no hho.2.1
    have HDF := Lib.hid (And.intro hfree (And.intro (Ur.tidy_nodot q) hr))
    clear hfree hr
    obtain ⟨v, hv⟩ := Ur.tidy_head q
    generalize Ur.tidyL q = T at *
    subst hv
    obtain ⟨u, rfl⟩ : ∃ u, tt = 47 :: u := ⟨v ++ r, he⟩
    have HLw : Hid (∀ W : World, Calls Tryd.prog 16 #[.string (bs th)] W fun e w' => e = .returned (.string (bs th)) ∧ Below W.heap.size W w') := Lib.hid fun W => by
      have := lower_any th W (by have := hho.2.2; omega)
      rwa [hsm] at this
    have q1 : ¬ tp < 1 := by omega
    have q2 : ¬ 65535 < tp := by omega
    have HE0 := Lib.hid he
    clear hG hLn hg hho hsm p1 p2 he
    go_enter Tryd.func5, Tryd.ntmps5
    go_wp2_with fail
    refine hA.mono ?_
    rintro e w1 ⟨rfl, hb1⟩
    go_wp2_with fail
    refine (hP _ (maxl_b hM hb1) (errs_b hE hb1)).mono ?_
    rintro e w2 ⟨rfl, hb2⟩
    have hB2 := bnext hb1 hb2 hb1.size
    have hal3 := alloc_below w2 (.cells #[.string (bs th), .int .i64 tp, .string (bs (47 :: u))] 23)
    have ha3 := heap_alloc_new w2 (.cells #[.string (bs th), .int .i64 tp, .string (bs (47 :: u))] 23)
    have hB3 := bnext hB2 hal3 hB2.size
    clear hA hP hb1 hb2 hB2 hal3 hM hE
    go_upto_region 6 with fail
    generalize hw3 : w2.alloc (.cells #[.string (bs th), .int .i64 tp, .string (bs (47 :: u))] 23) = w3 at *
    clear hw3
    refine wp_region_detN (n := 32) (S := fun _ W => W.heap[w2.heap.size]? = some (.cells #[.string (bs th), .int .i64 tp, .string (bs (47 :: u))] 23 (0, 0)) ∧ Below w.heap.size w W) (by kernel_rfl) rfl ⟨ha3, hB3.drew⟩ ?_
    refine' DetS.takeL (i := 0) (v := _) rfl (by kernel_rfl) (by kernel_rfl) (by kernel_rfl) (YS.pure rfl ?sd6_0 ?rd6_0) ?nd6_0
    case rd6_0 => intro L W hS; obtain ⟨a0, a1, a2, -⟩ := row_facts3 hS.1; go_simp; first | rfl | (rw [if_neg (by omega)] <;> rfl) | (rw [if_neg (by simp; omega)] <;> rfl) | (rw [if_neg (by simp)] <;> rfl)
    case sd6_0 => exact fun L W _ h => h
    simp only [Act.put, List.setIfInBounds_toArray, List.set_cons_zero, List.set_cons_succ]
    refine' DetS.takeL (i := 1) (v := _) rfl (by kernel_rfl) (by kernel_rfl) (by kernel_rfl) (YS.pure rfl ?sd6_1 ?rd6_1) ?nd6_1
    case rd6_1 => intro L W hS; obtain ⟨a0, a1, a2, -⟩ := row_facts3 hS.1; go_simp; first | rfl | (rw [if_neg (by omega)] <;> rfl) | (rw [if_neg (by simp; omega)] <;> rfl) | (rw [if_neg (by simp)] <;> rfl)
    case sd6_1 => exact fun L W _ h => h
    simp only [Act.put, List.setIfInBounds_toArray, List.set_cons_zero, List.set_cons_succ]
    refine' DetS.takeL (i := 2) (v := _) rfl (by kernel_rfl) (by kernel_rfl) (by kernel_rfl) (YS.pure rfl ?sd6_2 ?rd6_2) ?nd6_2
    case rd6_2 => intro L W hS; obtain ⟨a0, a1, a2, -⟩ := row_facts3 hS.1; go_simp; rw [show decide (tp < 1) = false from decide_eq_false (by omega)] <;> rfl
    case sd6_2 => exact fun L W _ h => h
    simp only [Act.put, List.setIfInBounds_toArray, List.set_cons_zero, List.set_cons_succ]
    refine' DetS.takeL (i := 3) (v := _) rfl (by kernel_rfl) (by kernel_rfl) (by kernel_rfl) (YS.pure rfl ?sd6_3 ?rd6_3) ?nd6_3
    case rd6_3 => intro L W hS; obtain ⟨a0, a1, a2, -⟩ := row_facts3 hS.1; go_simp; first | rfl | (rw [if_neg (by omega)] <;> rfl) | (rw [if_neg (by simp; omega)] <;> rfl) | (rw [if_neg (by simp)] <;> rfl)
    case sd6_3 => exact fun L W _ h => h
    simp only [Act.put, List.setIfInBounds_toArray, List.set_cons_zero, List.set_cons_succ]
    refine' DetS.takeL (i := 4) (v := _) rfl (by kernel_rfl) (by kernel_rfl) (by kernel_rfl) (YS.pure rfl ?sd6_4 ?rd6_4) ?nd6_4
    case rd6_4 => intro L W hS; obtain ⟨a0, a1, a2, -⟩ := row_facts3 hS.1; go_simp; first | rfl | (rw [if_neg (by omega)] <;> rfl) | (rw [if_neg (by simp; omega)] <;> rfl) | (rw [if_neg (by simp)] <;> rfl)
    case sd6_4 => exact fun L W _ h => h
    simp only [Act.put, List.setIfInBounds_toArray, List.set_cons_zero, List.set_cons_succ]
    refine' DetS.takeL (i := 5) (v := _) rfl (by kernel_rfl) (by kernel_rfl) (by kernel_rfl) (YS.pure rfl ?sd6_5 ?rd6_5) ?nd6_5
    case rd6_5 => intro L W hS; obtain ⟨a0, a1, a2, -⟩ := row_facts3 hS.1; go_simp; first | rfl | (rw [if_neg (by omega)] <;> rfl) | (rw [if_neg (by simp; omega)] <;> rfl) | (rw [if_neg (by simp)] <;> rfl)
    case sd6_5 => exact fun L W _ h => h
    simp only [Act.put, List.setIfInBounds_toArray, List.set_cons_zero, List.set_cons_succ]
    refine' DetS.takeL (i := 6) (v := _) rfl (by kernel_rfl) (by kernel_rfl) (by kernel_rfl) (YS.pure rfl ?sd6_6 ?rd6_6) ?nd6_6
    case rd6_6 => intro L W hS; obtain ⟨a0, a1, a2, -⟩ := row_facts3 hS.1; go_simp; rw [show decide (65535 < tp) = false from decide_eq_false (by omega)] <;> rfl
    case sd6_6 => exact fun L W _ h => h
    simp only [Act.put, List.setIfInBounds_toArray, List.set_cons_zero, List.set_cons_succ]
    refine' DetS.takeL (i := 7) (v := _) rfl (by kernel_rfl) (by kernel_rfl) (by kernel_rfl) (YS.pure rfl ?sd6_7 ?rd6_7) ?nd6_7
    case rd6_7 => intro L W hS; obtain ⟨a0, a1, a2, -⟩ := row_facts3 hS.1; go_simp; first | rfl | (rw [if_neg (by omega)] <;> rfl) | (rw [if_neg (by simp; omega)] <;> rfl) | (rw [if_neg (by simp)] <;> rfl)
    case sd6_7 => exact fun L W _ h => h
    simp only [Act.put, List.setIfInBounds_toArray, List.set_cons_zero, List.set_cons_succ]
    refine' DetS.takeL (i := 8) (v := _) rfl (by kernel_rfl) (by kernel_rfl) (by kernel_rfl) (YS.pure rfl ?sd6_8 ?rd6_8) ?nd6_8
    case rd6_8 => intro L W hS; obtain ⟨a0, a1, a2, -⟩ := row_facts3 hS.1; go_simp; first | rfl | (rw [if_neg (by omega)] <;> rfl) | (rw [if_neg (by simp; omega)] <;> rfl) | (rw [if_neg (by simp)] <;> rfl)
    case sd6_8 => exact fun L W _ h => h
    simp only [Act.put, List.setIfInBounds_toArray, List.set_cons_zero, List.set_cons_succ]
    refine' DetS.takeL (i := 9) (v := _) rfl (by kernel_rfl) (by kernel_rfl) (by kernel_rfl) (YS.pure rfl ?sd6_9 ?rd6_9) ?nd6_9
    case rd6_9 => intro L W hS; obtain ⟨a0, a1, a2, -⟩ := row_facts3 hS.1; go_simp; first | rfl | (rw [if_neg (by omega)] <;> rfl) | (rw [if_neg (by simp; omega)] <;> rfl) | (rw [if_neg (by simp)] <;> rfl)
    case sd6_9 => exact fun L W _ h => h
    simp only [Act.put, List.setIfInBounds_toArray, List.set_cons_zero, List.set_cons_succ]
    refine' DetS.takeL (i := 10) (v := _) rfl (by kernel_rfl) (by kernel_rfl) (by kernel_rfl) (YS.pure rfl ?sd6_10 ?rd6_10) ?nd6_10
    case rd6_10 => intro L W hS; obtain ⟨a0, a1, a2, -⟩ := row_facts3 hS.1; go_simp; first | rfl | (rw [if_neg (by omega)] <;> rfl) | (rw [if_neg (by simp; omega)] <;> rfl) | (rw [if_neg (by simp)] <;> rfl)
    case sd6_10 => exact fun L W _ h => h
    simp only [Act.put, List.setIfInBounds_toArray, List.set_cons_zero, List.set_cons_succ]
    refine' DetS.takeL (i := 11) (v := _) rfl (by kernel_rfl) (by kernel_rfl) (by kernel_rfl) (YS.pure rfl ?sd6_11 ?rd6_11) ?nd6_11
    case rd6_11 => intro L W hS; obtain ⟨a0, a1, a2, -⟩ := row_facts3 hS.1; go_simp; first | rfl | (rw [if_neg (by omega)] <;> rfl) | (rw [if_neg (by simp; omega)] <;> rfl) | (rw [if_neg (by simp)] <;> rfl)
    case sd6_11 => exact fun L W _ h => h
    simp only [Act.put, List.setIfInBounds_toArray, List.set_cons_zero, List.set_cons_succ]
    refine' DetS.takeL (i := 12) (v := _) rfl (by kernel_rfl) (by kernel_rfl) (by kernel_rfl) (YS.pure rfl ?sd6_12 ?rd6_12) ?nd6_12
    case rd6_12 => intro L W hS; obtain ⟨a0, a1, a2, -⟩ := row_facts3 hS.1; go_simp; first | rfl | (rw [if_neg (by omega)] <;> rfl) | (rw [if_neg (by simp; omega)] <;> rfl) | (rw [if_neg (by simp)] <;> rfl)
    case sd6_12 => exact fun L W _ h => h
    simp only [Act.put, List.setIfInBounds_toArray, List.set_cons_zero, List.set_cons_succ]
    refine' DetS.takeL (i := 13) (v := _) rfl (by kernel_rfl) (by kernel_rfl) (by kernel_rfl) (YS.pure rfl ?sd6_13 ?rd6_13) ?nd6_13
    case rd6_13 => intro L W hS; obtain ⟨a0, a1, a2, -⟩ := row_facts3 hS.1; go_simp; first | rfl | (rw [if_neg (by omega)] <;> rfl) | (rw [if_neg (by simp; omega)] <;> rfl) | (rw [if_neg (by simp)] <;> rfl)
    case sd6_13 => exact fun L W _ h => h
    simp only [Act.put, List.setIfInBounds_toArray, List.set_cons_zero, List.set_cons_succ]
    refine' DetS.takeL (i := 14) (v := _) rfl (by kernel_rfl) (by kernel_rfl) (by kernel_rfl) (YS.pure rfl ?sd6_14 ?rd6_14) ?nd6_14
    case rd6_14 => intro L W hS; obtain ⟨a0, a1, a2, -⟩ := row_facts3 hS.1; go_simp; first | rfl | (rw [if_neg (by omega)] <;> rfl) | (rw [if_neg (by simp; omega)] <;> rfl) | (rw [if_neg (by simp)] <;> rfl)
    case sd6_14 => exact fun L W _ h => h
    simp only [Act.put, List.setIfInBounds_toArray, List.set_cons_zero, List.set_cons_succ]
    refine' DetS.takeL (i := 15) (v := _) rfl (by kernel_rfl) (by kernel_rfl) (by kernel_rfl) (YS.pure rfl ?sd6_15 ?rd6_15) ?nd6_15
    case rd6_15 => intro L W hS; obtain ⟨a0, a1, a2, -⟩ := row_facts3 hS.1; go_simp; first | rfl | (rw [if_neg (by omega)] <;> rfl) | (rw [if_neg (by simp; omega)] <;> rfl) | (rw [if_neg (by simp)] <;> rfl)
    case sd6_15 => exact fun L W _ h => h
    simp only [Act.put, List.setIfInBounds_toArray, List.set_cons_zero, List.set_cons_succ]
    refine' DetS.takeL (i := 16) (v := _) rfl (by kernel_rfl) (by kernel_rfl) (by kernel_rfl) (YS.call (f := _) (args := _) rfl ?rd6_16 ?cd6_16) ?nd6_16
    case rd6_16 => intro W; go_simp; constructor <;> rfl
    case cd6_16 =>
      intro L W hL hS
      refine (HLw.out W).mono ?_
      rintro e w9 ⟨rfl, hb9⟩
      exact ⟨by rfl, row_keep hS.1 hb9, bnext hS.2 hb9 hS.2.size⟩
    simp only [Act.put, List.setIfInBounds_toArray, List.set_cons_zero, List.set_cons_succ]
    refine' DetS.takeL (i := 17) (v := _) rfl (by kernel_rfl) (by kernel_rfl) (by kernel_rfl) (YS.pure rfl ?sd6_17 ?rd6_17) ?nd6_17
    case rd6_17 => intro L W hS; obtain ⟨a0, a1, a2, -⟩ := row_facts3 hS.1; go_simp; first | rfl | (rw [if_neg (by omega)] <;> rfl) | (rw [if_neg (by simp; omega)] <;> rfl) | (rw [if_neg (by simp)] <;> rfl)
    case sd6_17 => exact fun L W _ h => h
    simp only [Act.put, List.setIfInBounds_toArray, List.set_cons_zero, List.set_cons_succ]
    refine' DetS.takeL (i := 18) (v := _) rfl (by kernel_rfl) (by kernel_rfl) (by kernel_rfl) (YS.pure rfl ?sd6_18 ?rd6_18) ?nd6_18
    case rd6_18 => intro L W hS; obtain ⟨a0, a1, a2, -⟩ := row_facts3 hS.1; go_simp; first | rfl | (rw [if_neg (by omega)] <;> rfl) | (rw [if_neg (by simp; omega)] <;> rfl) | (rw [if_neg (by simp)] <;> rfl)
    case sd6_18 => exact fun L W _ h => h
    simp only [Act.put, List.setIfInBounds_toArray, List.set_cons_zero, List.set_cons_succ]
    refine' DetS.takeL (i := 19) (v := _) rfl (by kernel_rfl) (by kernel_rfl) (by kernel_rfl) (YS.pure rfl ?sd6_19 ?rd6_19) ?nd6_19
    case rd6_19 => intro L W hS; obtain ⟨a0, a1, a2, -⟩ := row_facts3 hS.1; go_simp; first | rfl | (rw [if_neg (by omega)] <;> rfl) | (rw [if_neg (by simp; omega)] <;> rfl) | (rw [if_neg (by simp)] <;> rfl)
    case sd6_19 => exact fun L W _ h => h
    simp only [Act.put, List.setIfInBounds_toArray, List.set_cons_zero, List.set_cons_succ]
    refine' DetS.takeL (i := 20) (v := _) rfl (by kernel_rfl) (by kernel_rfl) (by kernel_rfl) (YS.pure rfl ?sd6_20 ?rd6_20) ?nd6_20
    case rd6_20 => intro L W hS; obtain ⟨a0, a1, a2, -⟩ := row_facts3 hS.1; go_simp; first | rfl | (rw [if_neg (by omega)] <;> rfl) | (rw [if_neg (by simp; omega)] <;> rfl) | (rw [if_neg (by simp)] <;> rfl)
    case sd6_20 => exact fun L W _ h => h
    simp only [Act.put, List.setIfInBounds_toArray, List.set_cons_zero, List.set_cons_succ]
    refine' DetS.takeL (i := 21) (v := _) rfl (by kernel_rfl) (by kernel_rfl) (by kernel_rfl) (YS.pure rfl ?sd6_21 ?rd6_21) ?nd6_21
    case rd6_21 => intro L W hS; obtain ⟨a0, a1, a2, -⟩ := row_facts3 hS.1; go_simp; first | rfl | (rw [if_neg (by omega)] <;> rfl) | (rw [if_neg (by simp; omega)] <;> rfl) | (rw [if_neg (by simp)] <;> rfl)
    case sd6_21 => exact fun L W _ h => h
    simp only [Act.put, List.setIfInBounds_toArray, List.set_cons_zero, List.set_cons_succ]
    refine' DetS.takeL (i := 22) (v := _) rfl (by kernel_rfl) (by kernel_rfl) (by kernel_rfl) (YS.pure rfl ?sd6_22 ?rd6_22) ?nd6_22
    case rd6_22 => intro L W hS; obtain ⟨a0, a1, a2, -⟩ := row_facts3 hS.1; go_simp; first | rfl | (rw [if_neg (by omega)] <;> rfl) | (rw [if_neg (by simp; omega)] <;> rfl) | (rw [if_neg (by simp)] <;> rfl)
    case sd6_22 => exact fun L W _ h => h
    simp only [Act.put, List.setIfInBounds_toArray, List.set_cons_zero, List.set_cons_succ]
    refine' DetS.takeL (i := 23) (v := _) rfl (by kernel_rfl) (by kernel_rfl) (by kernel_rfl) (YS.pure rfl ?sd6_23 ?rd6_23) ?nd6_23
    case rd6_23 => intro L W hS; obtain ⟨a0, a1, a2, -⟩ := row_facts3 hS.1; go_simp; first | rfl | (rw [if_neg (by omega)] <;> rfl) | (rw [if_neg (by simp; omega)] <;> rfl) | (rw [if_neg (by simp)] <;> rfl)
    case sd6_23 => exact fun L W _ h => h
    simp only [Act.put, List.setIfInBounds_toArray, List.set_cons_zero, List.set_cons_succ]
    refine' DetS.takeL (i := 24) (v := _) rfl (by kernel_rfl) (by kernel_rfl) (by kernel_rfl) (YS.pure rfl ?sd6_24 ?rd6_24) ?nd6_24
    case rd6_24 => intro L W hS; obtain ⟨a0, a1, a2, -⟩ := row_facts3 hS.1; go_simp; first | rfl | (rw [if_neg (by omega)] <;> rfl) | (rw [if_neg (by simp; omega)] <;> rfl) | (rw [if_neg (by simp)] <;> rfl)
    case sd6_24 => exact fun L W _ h => h
    simp only [Act.put, List.setIfInBounds_toArray, List.set_cons_zero, List.set_cons_succ]
    refine' DetS.takeL (i := 25) (v := _) rfl (by kernel_rfl) (by kernel_rfl) (by kernel_rfl) (YS.pure rfl ?sd6_25 ?rd6_25) ?nd6_25
    case rd6_25 => intro L W hS; obtain ⟨a0, a1, a2, -⟩ := row_facts3 hS.1; go_simp; first | rfl | (rw [if_neg (by omega)] <;> rfl) | (rw [if_neg (by simp; omega)] <;> rfl) | (rw [if_neg (by simp)] <;> rfl)
    case sd6_25 => exact fun L W _ h => h
    simp only [Act.put, List.setIfInBounds_toArray, List.set_cons_zero, List.set_cons_succ]
    refine' DetS.takeL (i := 26) (v := _) rfl (by kernel_rfl) (by kernel_rfl) (by kernel_rfl) (YS.pure rfl ?sd6_26 ?rd6_26) ?nd6_26
    case rd6_26 => intro L W hS; obtain ⟨a0, a1, a2, -⟩ := row_facts3 hS.1; go_simp; first | rfl | (rw [if_neg (by omega)] <;> rfl) | (rw [if_neg (by simp; omega)] <;> rfl) | (rw [if_neg (by simp)] <;> rfl)
    case sd6_26 => exact fun L W _ h => h
    simp only [Act.put, List.setIfInBounds_toArray, List.set_cons_zero, List.set_cons_succ]
    refine' DetS.takeL (i := 27) (v := _) rfl (by kernel_rfl) (by kernel_rfl) (by kernel_rfl) (YS.pure rfl ?sd6_27 ?rd6_27) ?nd6_27
    case rd6_27 => intro L W hS; obtain ⟨a0, a1, a2, -⟩ := row_facts3 hS.1; go_simp; first | rfl | (rw [if_neg (by omega)] <;> rfl) | (rw [if_neg (by simp; omega)] <;> rfl) | (rw [if_neg (by simp)] <;> rfl)
    case sd6_27 => exact fun L W _ h => h
    simp only [Act.put, List.setIfInBounds_toArray, List.set_cons_zero, List.set_cons_succ]
    refine' DetS.takeL (i := 28) (v := _) rfl (by kernel_rfl) (by kernel_rfl) (by kernel_rfl) (YS.pure rfl ?sd6_28 ?rd6_28) ?nd6_28
    case rd6_28 => intro L W hS; obtain ⟨a0, a1, a2, -⟩ := row_facts3 hS.1; go_simp; first | rfl | (rw [if_neg (by omega)] <;> rfl) | (rw [if_neg (by simp; omega)] <;> rfl) | (rw [if_neg (by simp)] <;> rfl)
    case sd6_28 => exact fun L W _ h => h
    simp only [Act.put, List.setIfInBounds_toArray, List.set_cons_zero, List.set_cons_succ]
    refine' DetS.takeL (i := 29) (v := _) rfl (by kernel_rfl) (by kernel_rfl) (by kernel_rfl) (YS.pure rfl ?sd6_29 ?rd6_29) ?nd6_29
    case rd6_29 => intro L W hS; obtain ⟨a0, a1, a2, -⟩ := row_facts3 hS.1; go_simp; first | rfl | (rw [if_neg (by omega)] <;> rfl) | (rw [if_neg (by simp; omega)] <;> rfl) | (rw [if_neg (by simp)] <;> rfl)
    case sd6_29 => exact fun L W _ h => h
    simp only [Act.put, List.setIfInBounds_toArray, List.set_cons_zero, List.set_cons_succ]
    refine' DetS.takeL (i := 30) (v := _) rfl (by kernel_rfl) (by kernel_rfl) (by kernel_rfl) (YS.pure rfl ?sd6_30 ?rd6_30) ?nd6_30
    case rd6_30 => intro L W hS; obtain ⟨a0, a1, a2, -⟩ := row_facts3 hS.1; go_simp; first | rfl | (rw [if_neg (by omega)] <;> rfl) | (rw [if_neg (by simp; omega)] <;> rfl) | (rw [if_neg (by simp)] <;> rfl)
    case sd6_30 => exact fun L W _ h => h
    simp only [Act.put, List.setIfInBounds_toArray, List.set_cons_zero, List.set_cons_succ]
    refine' DetS.takeL (i := 31) (v := _) rfl (by kernel_rfl) (by kernel_rfl) (by kernel_rfl) (YS.pure rfl ?sd6_31 ?rd6_31) ?nd6_31
    case rd6_31 => intro L W hS; obtain ⟨a0, a1, a2, -⟩ := row_facts3 hS.1; go_simp; first | rfl | (rw [if_neg (by omega)] <;> rfl) | (rw [if_neg (by simp; omega)] <;> rfl) | (rw [if_neg (by simp)] <;> rfl)
    case sd6_31 => exact fun L W _ h => h
    simp only [Act.put, List.setIfInBounds_toArray, List.set_cons_zero, List.set_cons_succ]
    refine DetS.done (by kernel_rfl) (fun W hS => ?_) _
    obtain ⟨ha6, hB6⟩ := hS
    obtain ⟨w6, rfl⟩ : ∃ w6, w6 = W := ⟨_, rfl⟩
    obtain ⟨a0, a1, a2, -⟩ := row_facts3 ha6
    clear ha3 hB3 HLw hth q1 q2
    have he := HE0.out
    obtain ⟨hfree, hdots, hr⟩ := HDF.out
    clear HE0 HDF
    generalize hPP : 47 :: u = P at *
    clear hPP
    have HPe := Lib.hid he
    have HDots := Lib.hid hdots
    have HFree := Lib.hid hfree
    clear he hdots hfree ha6
    generalize hTT : 47 :: v = T at *
    have hT1 : 1 ≤ T.length := by rw [← hTT]; simp
    have HTl : Hid (P.length = T.length + r.length) := Lib.hid (by rw [HPe.out]; simp)
    have HTat : Hid (∀ i, i < T.length → P[i]? = T[i]?) := Lib.hid fun i hi => by rw [HPe.out, List.getElem?_append_left hi]
    have HTsub : Hid (∀ f i, i ≤ T.length → List.take (i - f) (List.drop f P) = (T.take i).drop f) := Lib.hid fun f i hi => by
      rw [HPe.out, bs_sub, List.take_append_of_le_length hi]
    have HRest : Hid (P.length = T.length ∨ P[T.length]? = some 63) := Lib.hid (by
      rcases hr with rfl | ⟨z, rfl⟩
      · exact .inl (by rw [HPe.out]; simp)
      · exact .inr (by rw [HPe.out]; simp))
    generalize hn0 : T.length = n0 at *
    have HN0 := Lib.hid hn0
    clear hn0 hr HPe hTT
    go_wp2_with fail
    go_loopg [5, 6] (n0 + 1) (fun q fv iv wr => ∃ f i : Nat, q + i = n0 + 2 ∧ fv = .int .i64 (f : Int) ∧ iv = .int .i64 (i : Int) ∧ f + 1 ≤ i ∧ Hid ((i ≤ n0 ∧ (∀ j, f + 1 ≤ j → j < i → T[j]? ≠ some 47) ∧ (∀ p ∈ Ur.splitc 47 (T.drop (f + 1)), Ur.dotB p = false)) ∨ (i = n0 + 1 ∧ P.length = n0)) ∧ wr = w6)
    case atStart => exact ⟨0, 1, by omega, rfl, rfl, by omega, Lib.hid (.inl ⟨by omega, fun j h1 h2 => absurd h2 (by omega), HDots.out⟩), rfl⟩
    case round =>
      obtain ⟨f, i, hq, rfl, rfl, hfi, HI, rfl⟩ := hrel
      obtain ⟨w6, rfl⟩ : ∃ w6, w6 = wr := ⟨_, rfl⟩
      have hfi1 : (f : Int) + 1 ≤ (i : Int) := by omega
      rcases HI.out with ⟨hi, hno, hds⟩ | ⟨hi, hPl⟩
      · have hTle : n0 ≤ P.length := by rw [HTl.out]; omega
        have hile : (i : Int) ≤ (P.length : Int) := by omega
        by_cases hin : i < n0
        · have hlt : i < P.length := by omega
          have hine : ((i : Int) == (P.length : Int)) = false := by rw [beq_eq_false_iff_ne]; omega
          have hii : i < T.length := by rw [HN0.out]; omega
          have hat : P[i] = T[i] := by
            have := HTat.out i (by omega)
            rw [List.getElem?_eq_getElem hlt, List.getElem?_eq_getElem hii] at this
            exact Option.some.inj this
          have c63 : ¬ P[i] = 63 := by rw [hat]; exact HFree.out _ (List.getElem_mem hii)
          have e63 := u8nek c63 63 rfl
          by_cases c47 : P[i] = 47
          · have e47 := u8eqk c47 47 rfl
            have HEND : i = T.length ∨ T[i]? = some 47 := .inr (by rw [List.getElem?_eq_getElem hii, ← hat, c47])
            have hpp := plain_piece (T := T) (f := f) (i := i) hfi (by rw [HN0.out]; omega) hno HEND
            have hdd := hds _ hpp.1
            rw [← HTsub.out (f + 1) i (by omega)] at hdd
            have s1 : (List.take (i - (f + 1)) (List.drop (f + 1) P) == [46]) = false := by unfold Ur.dotB at hdd; simp only [Bool.or_eq_false_iff] at hdd; exact hdd.1
            have s2 : (List.take (i - (f + 1)) (List.drop (f + 1) P) == [46, 46]) = false := by unfold Ur.dotB at hdd; simp only [Bool.or_eq_false_iff] at hdd; exact hdd.2
            have HNX : Hid ((i + 1 ≤ n0 ∧ (∀ j, i + 1 ≤ j → j < i + 1 → T[j]? ≠ some 47) ∧ (∀ p ∈ Ur.splitc 47 (T.drop (i + 1)), Ur.dotB p = false)) ∨ (i + 1 = n0 + 1 ∧ P.length = n0)) := Lib.hid (.inl ⟨by omega, fun j h1 h2 => absurd h2 (by omega), fun p hp => hds p (hpp.2 hii p hp)⟩)
            clear hdd hpp hds hno HEND c47 c63 hat HI HTl HTat HTsub HRest HFree HDots
            go_wp2
            go_roundg (n0 + 2 - (i + 1))
            case measure => omega
            case rel => exact ⟨i, i + 1, by omega, rfl, by go_num, by omega, HNX, rfl⟩
          · have e47 := u8nek c47 47 rfl
            have HNX : Hid ((i + 1 ≤ n0 ∧ (∀ j, f + 1 ≤ j → j < i + 1 → T[j]? ≠ some 47) ∧ (∀ p ∈ Ur.splitc 47 (T.drop (f + 1)), Ur.dotB p = false)) ∨ (i + 1 = n0 + 1 ∧ P.length = n0)) := Lib.hid (.inl ⟨by omega, fun j h1 h2 => by
              rcases Nat.lt_or_ge j i with h | h
              · exact hno j h1 h
              · obtain rfl : j = i := by omega
                rw [List.getElem?_eq_getElem hii, ← hat]
                intro h3
                exact c47 (Option.some.inj h3), hds⟩)
            clear hds hno c47 c63 hat HI HTl HTat HTsub HRest HFree HDots
            go_wp2
            go_roundg (n0 + 2 - (i + 1))
            case measure => omega
            case rel => exact ⟨f, i + 1, by omega, rfl, by go_num, by omega, HNX, rfl⟩
        · obtain rfl : i = n0 := by omega
          have HEND : i = T.length ∨ T[i]? = some 47 := .inl HN0.out.symm
          have hpp := plain_piece (T := T) (f := f) (i := i) hfi (by rw [HN0.out]; omega) hno HEND
          have hdd := hds _ hpp.1
          rw [← HTsub.out (f + 1) i (by omega)] at hdd
          have s1 : (List.take (i - (f + 1)) (List.drop (f + 1) P) == [46]) = false := by unfold Ur.dotB at hdd; simp only [Bool.or_eq_false_iff] at hdd; exact hdd.1
          have s2 : (List.take (i - (f + 1)) (List.drop (f + 1) P) == [46, 46]) = false := by unfold Ur.dotB at hdd; simp only [Bool.or_eq_false_iff] at hdd; exact hdd.2
          clear hdd hpp hds hno HEND
          have hrest := HRest.out
          rcases hrest with hPl | h63
          · have hine : ((i : Int) == (P.length : Int)) = true := by rw [beq_iff_eq]; omega
            have HPL := Lib.hid hPl
            have hnl : ¬ (i : Int) < (P.length : Int) := by omega
            clear hPl HI HTl HTat HTsub HRest HFree HDots
            go_wp2
            go_roundg (i + 2 - (i + 1))
            case measure => omega
            case rel => exact ⟨i, i + 1, by omega, rfl, by go_num, by omega, Lib.hid (.inr ⟨rfl, HPL.out⟩), rfl⟩
          · have hlt : i < P.length := by
              rcases Nat.lt_or_ge i P.length with h | h
              · exact h
              · rw [List.getElem?_eq_none h] at h63; cases h63
            have hPi : P[i] = 63 := by rw [List.getElem?_eq_getElem hlt] at h63; exact Option.some.inj h63
            have hine : ((i : Int) == (P.length : Int)) = false := by rw [beq_eq_false_iff_ne]; omega
            have e63 := u8eqk hPi 63 rfl
            have n47 : ¬ P[i] = 47 := by rw [hPi]; decide
            have e47 := u8nek n47 47 rfl
            clear hPi n47 h63 HI HTl HTat HTsub HRest HFree HDots
            go_wp2
            go_ret
            exact ⟨rfl, hB6⟩
      · subst hi
        have hgt : ¬ (((n0 + 1 : Nat) : Int)) ≤ (P.length : Int) := by omega
        clear HI HTl HTat HTsub HRest HFree HDots
        go_wp2
        go_ret
        exact ⟨rfl, hB6⟩
  · have htn : (te != 0) = true := by simpa using hte
    clear hG hLn hte
    go_enter Tryd.func5, Tryd.ntmps5
    go_wp2_with fail
    refine hA.mono ?_
    rintro e w1 ⟨rfl, hb1⟩
    go_wp2_with fail
    refine (hP _ (maxl_b hM hb1) (errs_b hE hb1)).mono ?_
    rintro e w2 ⟨rfl, hb2⟩
    have hB2 := bnext hb1 hb2 hb1.size
    have hal3 := alloc_below w2 (.cells #[.string (bs th), .int .i64 tp, .string (bs tt)] 23)
    have hB3 := bnext hB2 hal3 hB2.size
    go_wp2
    go_ret
    exact ⟨rfl, hB3⟩

theorem star : "*" ++ "errors.errorString" = "*errors.errorString" := by decide
theorem err_row (u : TypeId) (h : Tryd.prog.typeName? 3 u = some "*errors.errorString") : u = 123 :=
  typeName_ptr_named (nm := "errors.errorString") (by rw [star]; kernel_rfl) (by kernel_rfl) (by decide) u (by rw [star]; exact h)
theorem err_of {W : World} (h : laidMet Tryd.prog Rows.uriPlainUptoRow.laid W) : ErrS W := by
  obtain ⟨a, s, h1, -, -, -⟩ := laid_sentinel (ti := 47) (tp := 123) (te := 125) (ts := 9) (g := 2) (((((h).tail).tail).tail).tail).tail (by kernel_rfl) (by kernel_rfl) Tryd.underlying47 err_row Tryd.underlying123 Tryd.underlying125 rfl rfl Tryd.underlying9 (by kernel_rfl) (by kernel_rfl)
  exact errs_of h1
theorem own : ownKnob Tryd.prog.godebug = none := by kernel_rfl
theorem contract (H : Type) (enc : TypeId × Value → H) (W : World) (base : Nat) (args : Array Value) (ds gs : List (DataW H)) (before : List MemPlace)
    (hval : ∀ (j : Nat) t v, Tryd.f5.params[j]? = some t → args[j]? = some v → Value.okWide Tryd.prog W .any base t v)
    (hW : DataW.Whole enc Tryd.prog Tryd.f5.params.toList Rows.uriPlainSpec.vars false W args.toList ds gs before) (hk : Rows.uptoSmall H (ds ++ gs) = true) (hmax : MaxL W) (herr : ErrS W) :
    Calls Tryd.prog 5 args W fun e W' => ∃ v, e = .returned v ∧ Rows.uriPlainSpec.post enc Tryd.prog Tryd.f5 false true false false W args v W' := by
  have hW' := hW
  obtain ⟨p, q, hA0, hV, rfl, hfz, hnd⟩ := hW
  have hA : DataW.TrodAll enc Tryd.prog W 0 (fun _ => true) true Tryd.f5.params.toList args.toList ds p := hA0
  rw [Tryd.params5] at hA hval
  obtain ⟨v0, vs0, d0, ds0, p0, q0, hargs, rfl, rfl, h0, r0⟩ := trodAll_cons hA
  obtain ⟨rfl, rfl, rfl⟩ := trodAll_nil r0
  obtain rfl : args = #[v0] := by cases args; simp_all
  obtain ⟨rfl, rfl⟩ := trodVars_none hV
  have hall := bulks.bound hk
  simp only [List.append_nil, Rows.uptoBulkAll] at hall
  have hb0 : Rows.uptoBulk d0 ≤ 1048576 := by omega
  clear hall
  obtain ⟨s0, rfl, e0⟩ := opS (hval 0 9 v0 rfl rfl) h0
  have hl0 : s0.length ≤ 1048576 := by have := hb0; rw [e0, bulks.string_eq] at this; omega
  clear hA0
  refine (walk W hmax herr s0 hl0).mono fun e W' ⟨he, hg⟩ => ?_
  subst he
  exact ⟨_, rfl, post_of_below (pa := p0 ++ ([])) (pv := []) hW' (fun _ _ _ => (trodAll_cons_mk (shut_bool Tryd.underlying4 _) trodAll_mk0)) (fun sp hsp => (trodAll_cons_mk (arg_stays laidOut (by kernel_rfl) (of_decide_eq_true (by kernel_rfl)) h0 hg (fun x hx => hW'.lt x (by simp [hx])) sp (fun x hx => hsp x (by simp [hx]))) trodAll_mk0)) (fun _ _ => rfl) rfl
    hg (ok_one (by kernel_rfl) rfl (okWide_bool_mk Tryd.underlying4 _))⟩

/-- A world for the witness: the listed variables hold what the program lays. -/
noncomputable def laidWorld (os : Os) : World := World.laidAll Tryd.prog os Rows.uriPlainUptoRow.laid
set_option maxRecDepth 1000000 in
theorem laid_met (os : Os) : laidMet Tryd.prog Rows.uriPlainUptoRow.laid ((laidWorld os).forCall (fun _ _ => 0) ⟨#[], #[.string ⟨#[]⟩], []⟩).memory :=
  laidMet_laidAll _ (by kernel_rfl) (by kernel_rfl)

theorem reads (os : Os) {H : Type} (enc : TypeId × Value → H) : ∃ places, DataW.whole enc Tryd.prog ((laidWorld os).forCall (fun _ _ => 0) ⟨#[], #[.string ⟨#[]⟩], []⟩).memory Tryd.f5.params.toList Rows.uriPlainSpec.vars false #[.string ⟨#[]⟩].toList 8 = some ([.lit (.string [])], [], places) :=
  ⟨[], by kernel_rfl⟩

set_option maxRecDepth 100000 in
theorem liftedUpto (os : Os) (started : os.Started) (H : Type) (enc : TypeId × Value → H) (F : Stop.Interp) :
    ReturnsInHanded {} Tryd.checked os 5 .any ((Rows.OpenSpec.upto Rows.uriPlainSpec).preRow enc Tryd.prog Tryd.f5 Rows.uriPlainUptoRow.domain false Rows.uriPlainUptoRow.laid) (((Rows.OpenSpec.upto Rows.uriPlainSpec).at F).post enc Tryd.prog Tryd.f5 false true false false) := by
  obtain ⟨places, hx⟩ := reads os enc
  refine returnsInHanded_of_row (C := Tryd.checked) (s := Rows.OpenSpec.upto Rows.uriPlainSpec) own started (by kernel_rfl) Tryd.func5
    (witness_row_atRef (enc := enc) (C := Tryd.checked) false (laidWorld os) #[.string ⟨#[]⟩] (World.laidAll_os _ _ _) (by kernel_rfl) (by kernel_rfl) (by kernel_rfl)
      (OpenSpec.preRow_of_cond 8 hx (by kernel_rfl) (fun k hk => by cases hk; kernel_rfl) (by kernel_rfl) (laid_met os))) ?_
  intro W base args ds gs before hval hW g1 hcond g2 g3 g4 g5
  exact contract H enc W base args ds gs before hval hW (hcond _ rfl) (by first | exact maxl_of g4 | exact maxl_of g3 | exact maxl_of g2 | exact maxl_of g5 | exact maxl_of g1) (by first | exact err_of g3 | exact err_of g2 | exact err_of g4 | exact err_of g5 | exact err_of g1)

theorem saidUpto : Rows.UriPlainUptoSaid :=
  OpenClaim.holds_of_cond 5 Tryd.f5 rfl rfl rfl rfl rfl rfl rfl ⟨rfl, rfl, rfl, rfl, rfl⟩ rfl rfl rfl rfl rfl (by kernel_rfl) Tryd.func5 (by kernel_rfl)
    (of_decide_eq_true (by kernel_rfl)) (by unfold Func.isWrapper; first | (rw [if_pos (by decide +kernel)]; kernel_rfl) | (rw [if_neg (by decide +kernel)]; exact ⟨rfl, rfl⟩))
    (fun os started H enc _ F => by rw [OpenClaim.pre_eq_preRow]; exact liftedUpto os started H enc F)

theorem plain (f : FuncId) (fn : Func) (hf : Tryd.pinned.checked.prog.funcNamed "conduit/conduitlaw03.UriPlain" = some f) (hfn : Tryd.pinned.checked.prog.funcs[f]? = some fn) :
    true = Tryd.pinned.checked.prog.looks [] ∧ ∀ (j : Nat) t, fn.params[j]? = some t → Tryd.pinned.checked.prog.wantsStandIn t = false := by
  obtain rfl : f = 5 := Option.some.inj ((show Tryd.prog.funcNamed "conduit/conduitlaw03.UriPlain" = some 5 by kernel_rfl).symm.trans hf) |>.symm
  obtain rfl : fn = Tryd.f5 := (Option.some.inj (Tryd.func5.symm.trans hfn)).symm
  refine ⟨by kernel_rfl, fun j t ht => ?_⟩
  rw [Tryd.params5] at ht
  have hm := Array.mem_of_getElem? ht
  simp only [List.mem_toArray, List.mem_cons, List.not_mem_nil, or_false] at hm
  rcases hm with rfl
  · exact (show Tryd.prog.wantsStandIn 9 = false by kernel_rfl)

theorem proved : Rows.UriPlainUptoCardSaid :=
  Claim7.holds_tied_plain_at .later [] _ _ _ _ saidUpto (fun _ h => by cases h) (by kernel_rfl) (fun _ h => by cases h) uriPlainUpto_row_tie rfl ⟨rfl, rfl⟩ (by kernel_rfl) rfl plain (by kernel_rfl)
end Go.Proofs.YtdeaoagdjnnppaaDoor.uriPlain
