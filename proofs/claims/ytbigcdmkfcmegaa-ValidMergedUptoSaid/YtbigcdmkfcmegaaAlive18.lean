/- The laws' own look at valid: it answers true. No conditions. -/
import Derived.Test.YtbigcdmkfcmegaaMerge
import Derived.Test.YtbigcdmkfcmegaaSame
set_option linter.unusedVariables false
set_option linter.unusedSimpArgs false
namespace Go.Proofs.Ytbigcdmkfcmegaa
open Go.RowKit

theorem al_tag : tgV [87, 47, 34, 97, 34] = .tuple #[.string (bs [34, 97, 34]), .bool true, .bool true] := by
  have : tgR [87, 47, 34, 97, 34] = ([34, 97, 34], true, true) := by decide
  unfold tgV; rw [this]
theorem al_s1 : sameR [87, 47, 34, 97, 34] [34, 97, 34] false = true := by decide
theorem al_s2 : sameR [87, 47, 34, 97, 34] [34, 97, 34] true = false := by decide
def alA : List Fld := [([65], [49]), ([66], [50])]
def alB : List Fld := [([98], [51])]
def alM : List Fld := [([65], [49]), ([98], [51])]
theorem al_m : mergeL alA alB = alM := by decide
theorem fl_ok {l : List Fld} (h : ∀ f ∈ l, f.1.length ≤ 1000 ∧ f.2.length ≤ 1000) : FlenOK l := fun f hf => by have := h f hf; omega
set_option maxHeartbeats 1000000 in
theorem alive18 (w : World) : Calls Try.prog 7 #[] w fun e w' => e = .returned (.bool true) ∧ Below w.heap.size w w' := by
  go_enter Try.func7, Try.ntmps7
  go_wp2_with fail
  refine (tag_p [87, 47, 34, 97, 34] _ (by simp)).mono ?_
  rintro e w' ⟨rfl, rfl⟩
  rw [al_tag]
  go_wp2_with fail
  refine (merge_p _ _ 2 2 1 1 alA alB _ ((rdF_lit w alA 37 _ _ rfl rfl).step (alloc_below _ _)) (rdF_lit _ alB 37 _ _ (by simp) rfl) (by omega) (fl_ok (by decide)) (fl_ok (by decide))).mono ?_
  rintro e w1 ⟨A1, n1, c1, rfl, hown1, hb1⟩
  rw [al_m] at hown1
  have hb1' : Below w.heap.size w w1 := bnext (bnext (alloc_below _ _) (alloc_below _ _) (by simp)) hb1 (by simp; omega)
  have hn1 : n1 ≤ 2 := by have := hown1.rd.1; simp [alM] at this; omega
  go_wp2_with fail
  refine (same_p [87, 47, 34, 97, 34] [34, 97, 34] false _ (by simp) (by simp)).mono ?_
  rintro e w' ⟨rfl, rfl⟩
  rw [al_s1]
  go_wp2_with fail
  refine (same_p [87, 47, 34, 97, 34] [34, 97, 34] true _ (by simp) (by simp)).mono ?_
  rintro e w' ⟨rfl, rfl⟩
  rw [al_s2]
  go_wp2_with fail
  refine (sameFields_any _ _ _ 2 _ 2 alM alM _ (hown1.rd.step (alloc_below _ _)) (rdF_lit _ alM 37 _ _ (by simp) rfl) (by omega) (by omega)).mono ?_
  rintro e w2 ⟨rfl, hb2⟩
  go_wp2
  go_ret
  exact ⟨ret_bool (by simp), bnext (bnext hb1' (alloc_below _ _) hb1'.size) hb2 (by have := hb1'.size; simp; omega)⟩
end Go.Proofs.Ytbigcdmkfcmegaa
