/- fields.Without: the fields of other names. Conditions: texts' lengths at most 2^47, the list's bytes at most 2^47. -/
import Derived.Test.YtbigcdmkfcmegaaDel
set_option linter.unusedVariables false
set_option linter.unusedSimpArgs false
namespace Go.Proofs.Ytbigcdmkfcmegaa
open Go.RowKit

def SlenOK (l : List (List UInt8)) : Prop := ∀ s ∈ l, s.length ≤ 140737488355328
def withoutF (l : List Fld) (names : List (List UInt8)) : List Fld := l.filter fun f => !(names.any (isB f))
theorem cf11 (args : Array Value) (W : World) : (callFunc 30 args).run Try.prog W = .ok (.enter 30 args) W := by kernel_rfl
theorem cf1 (args : Array Value) (W : World) : (callFunc 28 args).run Try.prog W = .ok (.enter 28 args) W := by kernel_rfl
set_option maxHeartbeats 400000 in
theorem w1_any (gb : Nat) (B : Option Addr) (m d : Nat) (names : List (List UInt8)) (n v : List UInt8) (w : World) (hc : w.cell? ⟨gb, 0, none⟩ = some (.slice B m d)) (hr : RdS w B m names) (hm : m ≤ 140737488355328) (hns : SlenOK names)
    (hn : n.length ≤ 140737488355328) (hv : v.length ≤ 140737488355328) :
    Calls Try.prog 28 #[.agg #[.string (bs n), .string (bs v)], .pointer (some ⟨gb, 0, none⟩)] w fun e w' => e = .returned (.bool (names.any (isB (n, v)))) ∧ Below w.heap.size w w' := by
  have hcl := cell_later (Below.refl _ _) hc
  have hc' : ∀ o, (w.alloc o).cell? ⟨gb, 0, none⟩ = some (.slice B m d) := fun o => by rw [World.cell?_alloc_lt w o ⟨gb, 0, none⟩ (World.block_lt_of_cell? w _ hc)]; exact hc
  clear hcl
  go_enter Try.func28, Try.ntmps28
  go_wp2_with fail
  refine (containsFuncS_any B m d names 30 #[.pointer (some ⟨w.heap.size, 0, none⟩)] (isB (n, v)) (w.alloc (.cells #[.string (bs n), .string (bs v)] 37)) _ (Below.refl _ _) (hr.step (alloc_below _ _)) hm hns ?_).mono ?_
  · refine ⟨cf11, fun W s hW hs => w11_any w.heap.size n v s W ?_ ?_ hn hs⟩
    · rw [hW.cell (p := ⟨w.heap.size, 0, none⟩) (by simp), cell_of_row _ _ _ _ _ _ (heap_alloc_new w _)]; rfl
    · rw [hW.cell (p := ⟨w.heap.size, 1, none⟩) (by simp), cell_of_row _ _ _ _ _ _ (heap_alloc_new w _)]; rfl
  rintro e w1 ⟨rfl, hb1⟩
  go_wp2
  go_ret
  exact ⟨rfl, bnext (alloc_below _ _) hb1 (by simp)⟩
set_option maxHeartbeats 400000 in
theorem without_own (A B : Option Addr) (n c m d : Nat) (l : List Fld) (names : List (List UInt8)) (w : World) (hl : RdF w A n l) (hr : RdS w B m names) (hn : n * 32 ≤ 140737488355328) (hm : m ≤ 140737488355328) (hls : FlenOK l) (hns : SlenOK names) :
    Calls Try.prog 21 #[.slice A n c, .slice B m d] w fun e w' => ∃ A' n' c', e = .returned (.slice A' n' c') ∧ OwnF w' w.heap.size (.slice A' n' c') (withoutF l names) ∧ Below w.heap.size w w' := by
  go_enter Try.func21, Try.ntmps21
  go_wp2_with fail
  refine (cloneF_own A n c l _ (hl.step (alloc_below _ _)) hn).mono ?_
  rintro e w1 ⟨A1, n1, c1, rfl, hown1, hb1⟩
  have hn1 : n1 = n := by have := hown1.rd.1; have := hl.1; omega
  have HN := Lib.hid hn1
  clear hn1
  go_wp2_with fail
  have hb01 : Below (w.alloc (.cells #[.slice B m d] 32)).heap.size (w.alloc (.cells #[.slice B m d] 32)) w1 := hb1
  refine (deleteFuncF_any A1 n1 c1 l 28 #[.pointer (some ⟨w.heap.size, 0, none⟩)] (fun f => names.any (isB f)) (w.alloc (.cells #[.slice B m d] 32)) w1 hb01 hown1 (by rw [HN.out]; exact hn) hls ?_).mono ?_
  · refine ⟨cf1, fun W nm vl hW hnm hvl => w1_any w.heap.size B m d names nm vl W ?_ ?_ hm hns hnm hvl⟩
    · rw [hW.cell (p := ⟨w.heap.size, 0, none⟩) (by simp), cell_of_row _ _ _ _ _ _ (heap_alloc_new w _)]; rfl
    · exact (hr.step (alloc_below _ _)).step hW
  rintro e w2 ⟨A2, n2, c2, rfl, hown2, hb2⟩
  go_wp2
  go_ret
  exact ⟨A2, n2, c2, rfl, hown2.mono (by simp), (alloc_below _ _).trans (hb2.mono (by simp))⟩
end Go.Proofs.Ytbigcdmkfcmegaa
