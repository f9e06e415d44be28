/- The reference's OfResponse; the copies and comparisons of requests and responses; alive. Conditions: at most 2^20 fields, texts of at most 2^20 bytes. -/
import Derived.Test.YtocgnjkikgcjdaaDoorOfResp
import Derived.Test.YtocgnjkikgcjdaaDoorCopyF
import Derived.Test.YtocgnjkikgcjdaaDoorSameF
set_option linter.unusedVariables false
set_option linter.unusedSimpArgs false
namespace Go.Proofs.YtocgnjkikgcjdaaDoor
open Go.RowKit

/-- A row of the call's own stays behind a call that only makes memory. -/
theorem row_keep {w w' : World} {cs : Array Value} {t : TypeId} {B : Nat} (h : w.heap[B]? = some (.cells cs t (0, 0))) (hb : Below w.heap.size w w') : w'.heap[B]? = some (.cells cs t (0, 0)) := by
  rw [hb.block B (by exact (Array.getElem?_eq_some_iff.1 h).1)]; exact h
theorem row_facts4 {w : World} {v0 v1 v2 v3 : Value} {t : TypeId} {B : Nat} (h : w.heap[B]? = some (.cells #[v0, v1, v2, v3] t (0, 0))) :
    w.cell? ⟨B, 0, none⟩ = some v0 ∧ w.cell? ⟨B, 1, none⟩ = some v1 ∧ w.cell? ⟨B, 2, none⟩ = some v2 ∧ w.cell? ⟨B, 3, none⟩ = some v3 ∧ w.frozen? ⟨B, 0, none⟩ = false ∧ w.frozen? ⟨B, 1, none⟩ = false ∧ w.frozen? ⟨B, 2, none⟩ = false ∧ w.frozen? ⟨B, 3, none⟩ = false := by
  refine ⟨?_, ?_, ?_, ?_, ?_, ?_, ?_, ?_⟩
  iterate 4 (rw [cell_of_row _ _ _ _ _ _ h]; rfl)
  all_goals (simp only [World.frozen?, h]; rfl)
theorem bareR_any (st : Int) (m : List UInt8) (w : World) : Calls Tryd.prog 32 #[.int .i64 st, .string (bs m)] w fun e w' => e = .returned (.bool (bareL st m)) ∧ w = w' := by
  have HB : Hid (bareL st m = (m == [72, 69, 65, 68] || decide (100 ≤ st) && decide (st ≤ 199) || st == 204 || st == 304 || (m == [67, 79, 78, 78, 69, 67, 84] && decide (200 ≤ st) && decide (st ≤ 299)))) := Lib.hid (by
    unfold bareL mHEAD mCONN
    rw [Bool.decide_and, Bool.decide_and]
    generalize (m == [72, 69, 65, 68]) = a
    generalize (m == [67, 79, 78, 78, 69, 67, 84]) = b
    generalize decide (100 ≤ st) = c
    generalize decide (st ≤ 199) = d
    generalize decide (200 ≤ st) = f
    generalize decide (st ≤ 299) = g
    generalize (st == 204) = h
    generalize (st == 304) = i
    cases a <;> cases b <;> cases c <;> cases d <;> cases f <;> cases g <;> cases h <;> cases i <;> rfl)
  generalize bareL st m = R at *
  go_enter Tryd.func32, Tryd.ntmps32
  go_wp2
  all_goals
    go_ret
    refine ⟨ret_bool ?_, rfl⟩
    rw [HB.out]
    grind
theorem own_setCell {w : World} {base : Nat} {e : TypeId} {size n : Nat} {v : Value} {xs : List Value} (h : w.ownsRow base e size v n xs) {p : Addr} (hp : p.block < base) (u : Value) : (w.setCell p u).ownsRow base e size v n xs :=
  h.kept (row := some p.block) ⟨rfl, rfl, rfl, by simp [World.setCell], fun i _ hne => Below.heap_setCell w p u i (fun he => hne (by rw [he]))⟩ (by
    cases hv : v.ownBlock with
    | none => simp
    | some k =>
      have := (h.lt k hv).1
      simp; omega)
theorem OwnF.setCell {w : World} {B : Nat} {v : Value} {l : List Fld} (h : OwnF w B v l) {p : Addr} (hp : p.block < B) (u : Value) : OwnF (w.setCell p u) B v l := own_setCell h hp u
set_option maxHeartbeats 1000000 in
theorem copyRequest_any (m t : List UInt8) (minor : Int) (A : Option Addr) (n c : Nat) (l : List Fld) (w : World) (hl : RdF w A n l) (hn : n ≤ 1048576) :
    Calls Tryd.prog 14 #[reqV m t minor A n c] w fun e w' => ∃ A' n' c', e = .returned (reqV m t minor A' n' c') ∧ RdF w' A' n' l ∧ Below w.heap.size w w' := by
  unfold reqV
  have hal1 := alloc_below w (.cells #[.string (bs m), .string (bs t), .int .i64 minor, .slice A n c] 27)
  have hr1 := heap_alloc_new w (.cells #[.string (bs m), .string (bs t), .int .i64 minor, .slice A n c] 27)
  have hal2 := alloc_below (w.alloc (.cells #[.string (bs m), .string (bs t), .int .i64 minor, .slice A n c] 27)) (.cells #[.string ⟨#[]⟩, .string ⟨#[]⟩, .int .i64 0, .slice none 0 0] 27)
  have hb0 := bnext hal1 hal2 hal1.size
  have hl2 := (hl.step hal1).step hal2
  have hr2 := heap_alloc_new (w.alloc (.cells #[.string (bs m), .string (bs t), .int .i64 minor, .slice A n c] 27)) (.cells #[.string ⟨#[]⟩, .string ⟨#[]⟩, .int .i64 0, .slice none 0 0] 27)
  rw [show (w.alloc (.cells #[.string (bs m), .string (bs t), .int .i64 minor, .slice A n c] 27)).heap.size = w.heap.size + 1 by simp] at hr2
  have hr1a := row_keep hr1 hal2
  have hC := copyFields_own A n c l _ hl2 (by omega)
  clear hal1 hal2 hl hl2 hr1
  go_enter Tryd.func14, Tryd.ntmps14
  go_wp2_with fail
  refine hC.mono ?_
  rintro e w1 ⟨A', n', c', rfl, hown, hb1⟩
  have hr1b := row_keep hr1a hb1
  have hr2b := row_keep hr2 hb1
  have hbA := bnext hb0 hb1 hb0.size
  have hrd := hown.rd
  have hlt : w.heap.size + 2 ≤ w1.heap.size := by have := hb1.size; simpa using this
  obtain ⟨a0, a1, a2, a3, g0, g1, g2, g3⟩ := row_facts4 hr1b
  obtain ⟨c0, c1, c2, c3, f0, f1, f2, f3⟩ := row_facts4 hr2b
  clear hr1a hr2 hr1b hr2b hb1 hb0 hC
  rw [show ((w.alloc (.cells #[.string (bs m), .string (bs t), .int .i64 minor, .slice A n c] 27)).alloc (.cells #[.string ⟨#[]⟩, .string ⟨#[]⟩, .int .i64 0, .slice none 0 0] 27)).heap.size = w.heap.size + 2 by simp] at hown
  go_wp2
  refine bodyPost_ret (v := .agg #[.string (bs m), .string (bs t), .int .i64 minor, .slice A' n' c']) (by simp [results, Tryd.results14, go_sem, c0, c1, c2, c3]) rfl ⟨A', n', c', rfl, (((((hown.setCell (by simp) _).setCell (by simp) _).setCell (by simp) _).setCell (by simp) _).setCell (by simp) _).rd, ((((hbA.setCell (by simp) _).setCell (by simp) _).setCell (by simp) _).setCell (by simp) _).setCell (by simp) _⟩
set_option maxHeartbeats 1000000 in
theorem copyResponse_any (st : Int) (rs : List UInt8) (minor : Int) (A : Option Addr) (n c : Nat) (l : List Fld) (w : World) (hl : RdF w A n l) (hn : n ≤ 1048576) :
    Calls Tryd.prog 21 #[respV st rs minor A n c] w fun e w' => ∃ A' n' c', e = .returned (respV st rs minor A' n' c') ∧ RdF w' A' n' l ∧ Below w.heap.size w w' := by
  unfold respV
  have hal1 := alloc_below w (.cells #[.int .i64 st, .string (bs rs), .int .i64 minor, .slice A n c] 46)
  have hr1 := heap_alloc_new w (.cells #[.int .i64 st, .string (bs rs), .int .i64 minor, .slice A n c] 46)
  have hal2 := alloc_below (w.alloc (.cells #[.int .i64 st, .string (bs rs), .int .i64 minor, .slice A n c] 46)) (.cells #[.int .i64 0, .string ⟨#[]⟩, .int .i64 0, .slice none 0 0] 46)
  have hb0 := bnext hal1 hal2 hal1.size
  have hl2 := (hl.step hal1).step hal2
  have hr2 := heap_alloc_new (w.alloc (.cells #[.int .i64 st, .string (bs rs), .int .i64 minor, .slice A n c] 46)) (.cells #[.int .i64 0, .string ⟨#[]⟩, .int .i64 0, .slice none 0 0] 46)
  rw [show (w.alloc (.cells #[.int .i64 st, .string (bs rs), .int .i64 minor, .slice A n c] 46)).heap.size = w.heap.size + 1 by simp] at hr2
  have hr1a := row_keep hr1 hal2
  have hC := copyFields_own A n c l _ hl2 (by omega)
  clear hal1 hal2 hl hl2 hr1
  go_enter Tryd.func21, Tryd.ntmps21
  go_wp2_with fail
  refine hC.mono ?_
  rintro e w1 ⟨A', n', c', rfl, hown, hb1⟩
  have hr1b := row_keep hr1a hb1
  have hr2b := row_keep hr2 hb1
  have hbA := bnext hb0 hb1 hb0.size
  have hrd := hown.rd
  have hlt : w.heap.size + 2 ≤ w1.heap.size := by have := hb1.size; simpa using this
  obtain ⟨a0, a1, a2, a3, g0, g1, g2, g3⟩ := row_facts4 hr1b
  obtain ⟨c0, c1, c2, c3, f0, f1, f2, f3⟩ := row_facts4 hr2b
  clear hr1a hr2 hr1b hr2b hb1 hb0 hC
  rw [show ((w.alloc (.cells #[.int .i64 st, .string (bs rs), .int .i64 minor, .slice A n c] 46)).alloc (.cells #[.int .i64 0, .string ⟨#[]⟩, .int .i64 0, .slice none 0 0] 46)).heap.size = w.heap.size + 2 by simp] at hown
  go_wp2
  refine bodyPost_ret (v := .agg #[.int .i64 st, .string (bs rs), .int .i64 minor, .slice A' n' c']) (by simp [results, Tryd.results21, go_sem, c0, c1, c2, c3]) rfl ⟨A', n', c', rfl, (((((hown.setCell (by simp) _).setCell (by simp) _).setCell (by simp) _).setCell (by simp) _).setCell (by simp) _).rd, ((((hbA.setCell (by simp) _).setCell (by simp) _).setCell (by simp) _).setCell (by simp) _).setCell (by simp) _⟩
set_option maxHeartbeats 1000000 in
theorem sameRequest_any (m t : List UInt8) (minor : Int) (A B : Option Addr) (n c n' c' : Nat) (l : List Fld) (w : World) (hl : RdF w A n l) (hr : RdF w B n' l) (hn : n ≤ 1048576) (hn' : n' ≤ 1048576) :
    Calls Tryd.prog 17 #[reqV m t minor A n c, reqV m t minor B n' c'] w fun e w' => e = .returned (.bool true) ∧ Below w.heap.size w w' := by
  unfold reqV
  have hal1 := alloc_below w (.cells #[.string (bs m), .string (bs t), .int .i64 minor, .slice A n c] 27)
  have hal2 := alloc_below (w.alloc (.cells #[.string (bs m), .string (bs t), .int .i64 minor, .slice A n c] 27)) (.cells #[.string (bs m), .string (bs t), .int .i64 minor, .slice B n' c'] 27)
  have hb0 := bnext hal1 hal2 hal1.size
  have hS := sameFields_any A B n n' c c' l l _ ((hl.step hal1).step hal2) ((hr.step hal1).step hal2) (by omega) (by omega)
  rw [show (l == l) = true by simp] at hS
  have q1 : (m == m) = true := by simp
  have q2 : (t == t) = true := by simp
  have q3 : (minor == minor) = true := by simp
  clear hal1 hal2 hl hr
  go_enter Tryd.func17, Tryd.ntmps17
  go_wp2_with fail
  refine hS.mono ?_
  rintro e w1 ⟨rfl, hb1⟩
  go_wp2
  go_ret
  exact ⟨rfl, bnext hb0 hb1 hb0.size⟩
set_option maxHeartbeats 1000000 in
theorem sameResponse_any (st : Int) (rs : List UInt8) (minor : Int) (A B : Option Addr) (n c n' c' : Nat) (l : List Fld) (w : World) (hl : RdF w A n l) (hr : RdF w B n' l) (hn : n ≤ 1048576) (hn' : n' ≤ 1048576) :
    Calls Tryd.prog 24 #[respV st rs minor A n c, respV st rs minor B n' c'] w fun e w' => e = .returned (.bool true) ∧ Below w.heap.size w w' := by
  unfold respV
  have hal1 := alloc_below w (.cells #[.int .i64 st, .string (bs rs), .int .i64 minor, .slice A n c] 46)
  have hal2 := alloc_below (w.alloc (.cells #[.int .i64 st, .string (bs rs), .int .i64 minor, .slice A n c] 46)) (.cells #[.int .i64 st, .string (bs rs), .int .i64 minor, .slice B n' c'] 46)
  have hb0 := bnext hal1 hal2 hal1.size
  have hS := sameFields_any A B n n' c c' l l _ ((hl.step hal1).step hal2) ((hr.step hal1).step hal2) (by omega) (by omega)
  rw [show (l == l) = true by simp] at hS
  have q1 : (st == st) = true := by simp
  have q2 : (rs == rs) = true := by simp
  have q3 : (minor == minor) = true := by simp
  clear hal1 hal2 hl hr
  go_enter Tryd.func24, Tryd.ntmps24
  go_wp2_with fail
  refine hS.mono ?_
  rintro e w1 ⟨rfl, hb1⟩
  go_wp2
  go_ret
  exact ⟨rfl, bnext hb0 hb1 hb0.size⟩
theorem rdF_two (w : World) (t : TypeId) : RdF (w.alloc (.cells #[.string (bs [67, 111, 110, 116, 101, 110, 116, 45, 76, 101, 110, 103, 116, 104]), .string (bs [53, 44, 32, 48, 53])] t)) (some ⟨w.heap.size, 0, none⟩) 1 [([67, 111, 110, 116, 101, 110, 116, 45, 76, 101, 110, 103, 116, 104], [53, 44, 32, 48, 53])] := one_rdF w _ _ t
set_option maxHeartbeats 1000000 in
theorem alive_any (w : World) : Calls Tryd.prog 13 #[] w fun e w' => e = .returned (.bool true) ∧ Below w.heap.size w w' := by
  have hR : ruleL 1 [([67, 111, 110, 116, 101, 110, 116, 45, 76, 101, 110, 103, 116, 104], [53, 44, 32, 48, 53])] 0 = (1, 5, 0) := by decide +kernel
  have hal := alloc_below w (.cells #[.string (bs [67, 111, 110, 116, 101, 110, 116, 45, 76, 101, 110, 103, 116, 104]), .string (bs [53, 44, 32, 48, 53])] 42)
  have hO := ofRequest_any [] [] 1 (some ⟨w.heap.size, 0, none⟩) 1 1 [([67, 111, 110, 116, 101, 110, 116, 45, 76, 101, 110, 103, 116, 104], [53, 44, 32, 48, 53])] _ (rdF_two w 42) (by omega) (fun f hf => by simp at hf; subst hf; simp)
  rw [hR] at hO
  clear hR
  unfold reqV bodyV at hO
  go_enter Tryd.func13, Tryd.ntmps13
  go_wp2_with fail
  refine hO.mono ?_
  rintro e w1 ⟨rfl, hb1⟩
  have hbA := bnext hal hb1 hal.size
  clear hal hb1 hO
  go_wp2
  go_ret
  exact ⟨rfl, bnext hbA (alloc_below _ _) hbA.size⟩
set_option maxHeartbeats 1000000 in
theorem ofResponseR_any (st : Int) (rs : List UInt8) (minor : Int) (A : Option Addr) (n c : Nat) (l : List Fld) (m : List UInt8) (w : World) (hl : RdF w A n l) (hn : n ≤ 1048576) (hls : FlenS l) :
    Calls Tryd.prog 23 #[respV st rs minor A n c, .string (bs m)] w fun e w' => e = .returned (respO st m minor l) ∧ Below w.heap.size w w' := by
  unfold respV
  have hal1 := alloc_below w (.cells #[.int .i64 st, .string (bs rs), .int .i64 minor, .slice A n c] 46)
  have hal2 := alloc_below (w.alloc (.cells #[.int .i64 st, .string (bs rs), .int .i64 minor, .slice A n c] 46)) (.cells #[.int .i64 0, .int .i64 0] 31)
  have hb0 := bnext hal1 hal2 hal1.size
  have hl2 := (hl.step hal1).step hal2
  have hnew := heap_alloc_new (w.alloc (.cells #[.int .i64 st, .string (bs rs), .int .i64 minor, .slice A n c] 46)) (.cells #[.int .i64 0, .int .i64 0] 31)
  rw [show (w.alloc (.cells #[.int .i64 st, .string (bs rs), .int .i64 minor, .slice A n c] 46)).heap.size = w.heap.size + 1 by simp] at hnew
  clear hal1 hal2 hl
  cases hbare : bareL st m
  · have HR := Lib.hid (bare_no (minor := minor) (l := l) hbare)
    have hR := ruleR_any minor A n c l _ hl2 hn hls
    have HO := Lib.hid (ruleL_other minor l)
    have HBn := Lib.hid hbare
    clear hbare hl2
    generalize respO st m minor l = R at *
    generalize ruleL minor l 3 = q3 at *
    generalize ruleL minor l 0 = q0 at *
    obtain ⟨x, y, z⟩ := q0
    unfold bodyV at hR
    dsimp only at hR
    go_enter Tryd.func23, Tryd.ntmps23
    go_wp2_with (go_at_call 32; refine (bareR_any _ _ _).mono ?_; rintro e w9 ⟨rfl, rfl⟩; rw [HBn.out])
    refine hR.mono ?_
    rintro e w1 ⟨rfl, hb1⟩
    have hr1 := res_keep hnew hb1
    have hbA := bnext hb0 hb1 hb0.size
    have hal : ∀ u : Int, Below w1.heap.size w1 (w1.alloc (.cells #[.int .i64 u, .int .i64 y] 31)) := fun u => alloc_below w1 _
    have hbB : ∀ u : Int, Below w.heap.size w (w1.alloc (.cells #[.int .i64 u, .int .i64 y] 31)) := fun u => bnext hbA (hal u) hbA.size
    have hlt : w.heap.size + 2 ≤ w1.heap.size := by have := hb1.size; simpa using this
    have c0 := fun u : Int => (res_facts (res_keep hr1 (hal u))).1
    have c1 := fun u : Int => (res_facts (res_keep hr1 (hal u))).2.1
    have f0 := fun u : Int => (res_facts (res_keep hr1 (hal u))).2.2.1
    have f1 := fun u : Int => (res_facts (res_keep hr1 (hal u))).2.2.2
    have HbB := Lib.hid hbB
    clear hr1 hb1 hb0 hnew hR hbA hal hbB
    by_cases hc : z = 0 ∧ x = 0
    · obtain ⟨rfl, rfl⟩ := hc
      have HQ : Hid (R = bodyV (3, y, 0)) := Lib.hid (by rw [HR.out, HO.out]; rfl)
      clear HR HO
      go_wp2
      refine bodyPost_ret (v := bodyV (3, y, 0)) (by simp [results, Tryd.results23, go_sem, c0, c1, bodyV]) rfl ⟨by rw [HQ.out], ?_⟩
      exact ((HbB.out _).setCell (by simp) _).setCell (by simp) _
    · have HQ : Hid (R = bodyV (x, y, z)) := Lib.hid (by rw [HR.out, HO.out, if_neg hc])
      clear HR HO
      have hcs : (z == 0) = false ∨ ((z == 0) = true ∧ (x == 0) = false) := by
        by_cases e : z = 0
        · refine .inr ⟨by simp [e], ?_⟩
          have : x ≠ 0 := fun e2 => hc ⟨e, e2⟩
          simp [this]
        · exact .inl (by simp [e])
      clear hc
      rcases hcs with e1 | ⟨e1, e2⟩
      all_goals
        go_wp2
        refine bodyPost_ret (v := bodyV (x, y, z)) (by simp [results, Tryd.results23, go_sem, c0, c1, bodyV]) rfl ⟨by rw [HQ.out], ?_⟩
        exact ((HbB.out _).setCell (by simp) _).setCell (by simp) _
  · have HR := Lib.hid (bare_yes (minor := minor) (l := l) hbare)
    have HBn := Lib.hid hbare
    obtain ⟨c0, c1, f0, f1⟩ := res_facts hnew
    clear hbare hl2
    generalize respO st m minor l = R at *
    go_enter Tryd.func23, Tryd.ntmps23
    go_wp2_with (go_at_call 32; refine (bareR_any _ _ _).mono ?_; rintro e w9 ⟨rfl, rfl⟩; rw [HBn.out])
    refine bodyPost_ret (v := bodyV (0, 0, 0)) (by simp [results, Tryd.results23, go_sem, c0, c1, bodyV]) rfl ⟨by rw [HR.out], ?_⟩
    first | exact hb0 | exact (hb0.setCell (by simp) _).setCell (by simp) _ | (simp only [World.setCell_alloc]; exact hb0)
end Go.Proofs.YtocgnjkikgcjdaaDoor
