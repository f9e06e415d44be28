/- frame.rule: how a body ends. Conditions: at most 2^20 fields, texts of at most 2^20 bytes. -/
import Derived.Test.YtocgnjkikgcjdaaDoorGet
set_option linter.unusedVariables false
set_option linter.unusedSimpArgs false
namespace Go.Proofs.YtocgnjkikgcjdaaDoor
open Go.RowKit

def nTE : List UInt8 := [116, 114, 97, 110, 115, 102, 101, 114, 45, 101, 110, 99, 111, 100, 105, 110, 103]
def nCL : List UInt8 := [99, 111, 110, 116, 101, 110, 116, 45, 108, 101, 110, 103, 116, 104]
def wCh : List UInt8 := [99, 104, 117, 110, 107, 101, 100]
/-- How a body ends: the kind, the length, the error. -/
def ruleL (minor : Int) (l : List Fld) (other : Int) : Int × Int × Int :=
  if (valuesL l nTE).isEmpty = false then
    if (valuesL l nCL).isEmpty = false then (0, 0, 61) else if (minor == 0 || !(tokensL l nTE == [wCh])) = true then (0, 0, 62) else (2, 0, 0)
  else if (valuesL l nCL).isEmpty = true then (other, 0, 0)
  else if (lenL (elemsV (valuesL l nCL))).2 = 0 then (1, (lenL (elemsV (valuesL l nCL))).1, 0) else (0, 0, (lenL (elemsV (valuesL l nCL))).2)
def bodyV (r : Int × Int × Int) : Value := .tuple #[.agg #[.int .i64 r.1, .int .i64 r.2.1], .int .i64 r.2.2]
theorem ruleL_names (minor : Int) (l : List Fld) (other : Int) : valuesL l [84, 114, 97, 110, 115, 102, 101, 114, 45, 69, 110, 99, 111, 100, 105, 110, 103] = valuesL l nTE ∧ valuesL l [67, 111, 110, 116, 101, 110, 116, 45, 76, 101, 110, 103, 116, 104] = valuesL l nCL ∧ tokensL l [84, 114, 97, 110, 115, 102, 101, 114, 45, 69, 110, 99, 111, 100, 105, 110, 103] = tokensL l nTE :=
  ⟨valuesL_name (by decide), valuesL_name (by decide), tokensL_name (by decide)⟩
/-- What is left of a block of the call's own behind a call: its cells and that it is not frozen. -/
theorem res_keep {w w' : World} {v0 v1 : Value} {t : TypeId} {B : Nat} (h : w.heap[B]? = some (.cells #[v0, v1] t (0, 0))) (hb : Below w.heap.size w w') : w'.heap[B]? = some (.cells #[v0, v1] t (0, 0)) := by
  rw [hb.block B (by exact (Array.getElem?_eq_some_iff.1 h).1)]; exact h

theorem res_facts {w : World} {v0 v1 : Value} {t : TypeId} {B : Nat} (h : w.heap[B]? = some (.cells #[v0, v1] t (0, 0))) :
    w.cell? ⟨B, 0, none⟩ = some v0 ∧ w.cell? ⟨B, 1, none⟩ = some v1 ∧ w.frozen? ⟨B, 0, none⟩ = false ∧ w.frozen? ⟨B, 1, none⟩ = false := by
  refine ⟨?_, ?_, ?_, ?_⟩
  · rw [cell_of_row _ _ _ _ _ _ h]; rfl
  · rw [cell_of_row _ _ _ _ _ _ h]; rfl
  · simp only [World.frozen?, h]; rfl
  · simp only [World.frozen?, h]; rfl

set_option maxHeartbeats 1000000 in
theorem rule_any (minor : Int) (A : Option Addr) (n c : Nat) (l : List Fld) (other : Int) (w : World) (hl : RdF w A n l) (hn : n ≤ 1048576) (hls : FlenS l) :
    Calls Tryd.prog 28 #[.int .i64 minor, .slice A n c, .int .i64 other] w fun e w' => e = .returned (bodyV (ruleL minor l other)) ∧ Below w.heap.size w w' := by
  obtain ⟨q1, q2, q3⟩ := ruleL_names minor l other
  have HC1 : Hid ((valuesL l nTE).isEmpty = false → (valuesL l nCL).isEmpty = false → bodyV (ruleL minor l other) = bodyV (0, 0, 61)) := Lib.hid fun h1 h2 => by unfold ruleL; rw [if_pos h1, if_pos h2]
  have HC2 : Hid ((valuesL l nTE).isEmpty = false → (valuesL l nCL).isEmpty = true → (minor == 0 || !(tokensL l nTE == [wCh])) = true → bodyV (ruleL minor l other) = bodyV (0, 0, 62)) := Lib.hid fun h1 h2 h3 => by unfold ruleL; rw [if_pos h1, if_neg (by rw [h2]; decide), if_pos h3]
  have HC3 : Hid ((valuesL l nTE).isEmpty = false → (valuesL l nCL).isEmpty = true → (minor == 0 || !(tokensL l nTE == [wCh])) = false → bodyV (ruleL minor l other) = bodyV (2, 0, 0)) := Lib.hid fun h1 h2 h3 => by unfold ruleL; rw [if_pos h1, if_neg (by rw [h2]; decide), if_neg (by rw [h3]; decide)]
  have HC4 : Hid ((valuesL l nTE).isEmpty = true → (valuesL l nCL).isEmpty = true → bodyV (ruleL minor l other) = bodyV (other, 0, 0)) := Lib.hid fun h1 h2 => by unfold ruleL; rw [if_neg (by rw [h1]; decide), if_pos h2]
  have HC5 : Hid ((valuesL l nTE).isEmpty = true → (valuesL l nCL).isEmpty = false → ∀ a b : Int, lenV (valuesL l nCL) = .tuple #[.int .i64 a, .int .i64 b] → bodyV (ruleL minor l other) = if b = 0 then bodyV (1, a, 0) else bodyV (0, 0, b)) := Lib.hid fun h1 h2 a b h3 => by
    have e1 : (lenL (elemsV (valuesL l nCL))).1 = a := by unfold lenV at h3; simp at h3; exact h3.1
    have e2 : (lenL (elemsV (valuesL l nCL))).2 = b := by unfold lenV at h3; simp at h3; exact h3.2
    unfold ruleL
    rw [if_neg (by rw [h1]; decide), if_neg (by rw [h2]; decide), e1, e2]
    split <;> rfl
  have HTl : Hid ((tokensL l nTE).length ≤ n * 1048577) := Lib.hid (by rw [← hl.1]; exact tokens_len hls)
  have HVe : Hid (∀ v ∈ valuesL l nCL, v.length ≤ 1048576) := Lib.hid fun v hv => values_each hls hv
  have HVn : Hid ((valuesL l nCL).length ≤ n) := Lib.hid (by rw [← hl.1]; exact values_le l nCL)
  generalize bodyV (ruleL minor l other) = R at *
  have hal := alloc_below w (.cells #[.int .i64 0, .int .i64 0] 31)
  go_enter Tryd.func28, Tryd.ntmps28
  go_wp2_with fail
  refine (get_any A n c l [84, 114, 97, 110, 115, 102, 101, 114, 45, 69, 110, 99, 111, 100, 105, 110, 103] _ (hl.step hal) hn hls (by simp)).mono ?_
  rintro e w1 ⟨rfl, hb1⟩
  rw [q1]
  generalize Lib.join (valuesL l nTE) [44, 32] = js at *
  have hr1 := res_keep (heap_alloc_new w _) hb1
  have hl1 := (hl.step hal).step hb1
  have hbA := bnext hal hb1 hal.size
  clear hal hb1
  go_wp2_with fail
  refine (values_own A n c l [67, 111, 110, 116, 101, 110, 116, 45, 76, 101, 110, 103, 116, 104] w1 hl1 (by omega) hls.ok (by simp)).mono ?_
  rintro e w2 ⟨A2, n2, c2, rfl, hS, hb2⟩
  rw [q2] at hS
  have hr2 := res_keep hr1 hb2
  have hl2 := hl1.step hb2
  have hbB := bnext hbA hb2 hbA.size
  have hrd := hS.rd
  clear hr1 hl1 hbA hb2 hS
  have hlen := hrd.1
  obtain ⟨c0, c1, f0, f1⟩ := res_facts hr2
  have hn2b : n2 ≤ 1048576 := by have := HVn.out; omega
  have hn2e : (valuesL l nCL).isEmpty = decide (n2 = 0) := by
    rw [← hlen]
    cases valuesL l nCL with
    | nil => rfl
    | cons x r => simp
  clear hlen
  cases hte : (valuesL l nTE).isEmpty
  · cases hcl : (valuesL l nCL).isEmpty
    · have HR := Lib.hid (HC1.out hte hcl)
      have hn2 : (0 : Int) < (n2 : Int) := by rw [hcl] at hn2e; simp at hn2e; omega
      clear hcl hte hn2e
      go_wp2
      refine bodyPost_ret (v := bodyV (0, 0, 61)) (by simp [results, Tryd.results28, go_sem, c0, c1, bodyV]) rfl ⟨by rw [HR.out], (hbB.setCell (by simp) _).setCell (by simp) _⟩
    · have hn2 : n2 = 0 := by rw [hcl] at hn2e; simpa using hn2e.symm
      subst hn2
      have H2 := Lib.hid (HC2.out hte hcl)
      have H3 := Lib.hid (HC3.out hte hcl)
      clear hcl hte hn2e
      by_cases hm : minor = 0
      · subst hm
        have HR := Lib.hid (H2.out (by simp))
        go_wp2
        refine bodyPost_ret (v := bodyV (0, 0, 62)) (by simp [results, Tryd.results28, go_sem, c0, c1, bodyV]) rfl ⟨by rw [HR.out], (hbB.setCell (by simp) _).setCell (by simp) _⟩
      · have hm2 : (minor == 0) = false := by simp [hm]
        go_wp2_with fail
        refine (tokens_own A n c l [84, 114, 97, 110, 115, 102, 101, 114, 45, 69, 110, 99, 111, 100, 105, 110, 103] w2 hl2 hn hls (by simp)).mono ?_
        rintro e w3 ⟨A3, n3, c3, rfl, hT, hb3⟩
        rw [q3] at hT
        have hr3 := res_keep hr2 hb3
        have hbC := bnext hbB hb3 hbB.size
        have hrT := hT.rd
        have hn3 : n3 ≤ 140737488355328 := by
          have := HTl.out
          rw [hrT.1] at this
          have h2 : n * 1048577 ≤ 1048576 * 1048577 := Nat.mul_le_mul_right _ hn
          omega
        have hal := alloc_below w3 (.cells #[.string (bs wCh)] 9)
        have hr4 := res_keep hr3 hal
        have hbD := bnext hbC hal hbC.size
        have hrT2 := hrT.step hal
        have hE := equal_any A3 (some ⟨w3.heap.size, 0, none⟩) n3 1 c3 1 (tokensL l nTE) [wCh] (w3.alloc (.cells #[.string (bs wCh)] 9)) hrT2 (one_rdS' _ _ _ _ rfl) hn3 (by omega)
        clear hT hb3 hr3 hbC hrT hal hrT2 c0 c1 f0 f1 hr2 hl2 hbB hrd
        have HW : Hid (wCh = [99, 104, 117, 110, 107, 101, 100]) := Lib.hid rfl
        rw [HW.out] at hE hr4 hbD
        go_wp2_with fail
        refine hE.mono ?_
        rintro e w5 ⟨rfl, hb5⟩
        have hr5 := res_keep hr4 hb5
        have hbE := bnext hbD hb5 hbD.size
        obtain ⟨c0, c1, f0, f1⟩ := res_facts hr5
        cases heq : (tokensL l nTE == [[99, 104, 117, 110, 107, 101, 100]])
        · have HR := Lib.hid (H2.out (by rw [HW.out, heq]; simp))
          go_wp2
          refine bodyPost_ret (v := bodyV (0, 0, 62)) (by simp [results, Tryd.results28, go_sem, c0, c1, bodyV]) rfl ⟨by rw [HR.out], (hbE.setCell (by simp) _).setCell (by simp) _⟩
        · have HR := Lib.hid (H3.out (by rw [HW.out, heq, hm2]; rfl))
          go_wp2
          refine bodyPost_ret (v := bodyV (2, 0, 0)) (by simp [results, Tryd.results28, go_sem, c0, c1, bodyV]) rfl ⟨by rw [HR.out], (hbE.setCell (by simp) _).setCell (by simp) _⟩
  · cases hcl : (valuesL l nCL).isEmpty
    · have H5 := Lib.hid (HC5.out hte hcl)
      have hn2 : ¬ n2 = 0 := by rw [hcl] at hn2e; simpa using hn2e.symm
      clear hcl hte hn2e
      go_wp2_with fail
      refine (length_any A2 n2 c2 (valuesL l nCL) w2 hrd hn2b HVe.out).mono ?_
      rintro e w3 ⟨rfl, hb3⟩
      have hr3 := res_keep hr2 hb3
      have hbC := bnext hbB hb3 hbB.size
      obtain ⟨c0, c1, f0, f1⟩ := res_facts hr3
      unfold lenV at H5 ⊢
      generalize (lenL (elemsV (valuesL l nCL))).1 = a at *
      generalize (lenL (elemsV (valuesL l nCL))).2 = b at *
      by_cases hb0 : b = 0
      · subst hb0
        have HR := Lib.hid (H5.out a 0 rfl)
        go_wp2
        refine bodyPost_ret (v := bodyV (1, a, 0)) (by simp [results, Tryd.results28, go_sem, c0, c1, bodyV]) rfl ⟨by rw [HR.out]; rfl, (hbC.setCell (by simp) _).setCell (by simp) _⟩
      · have HR := Lib.hid (H5.out a b rfl)
        have hb1 : (b != 0) = true := by simp [hb0]
        have HR2 : Hid (R = bodyV (0, 0, b)) := Lib.hid (by rw [HR.out, if_neg hb0])
        go_wp2
        refine bodyPost_ret (v := bodyV (0, 0, b)) (by simp [results, Tryd.results28, go_sem, c0, c1, bodyV]) rfl ⟨by rw [HR2.out], (hbC.setCell (by simp) _).setCell (by simp) _⟩
    · have hn2 : n2 = 0 := by rw [hcl] at hn2e; simpa using hn2e.symm
      subst hn2
      have HR := Lib.hid (HC4.out hte hcl)
      clear hcl hte hn2e
      go_wp2
      refine bodyPost_ret (v := bodyV (other, 0, 0)) (by simp [results, Tryd.results28, go_sem, c0, c1, bodyV]) rfl ⟨by rw [HR.out], (hbB.setCell (by simp) _).setCell (by simp) _⟩
end Go.Proofs.YtocgnjkikgcjdaaDoor
