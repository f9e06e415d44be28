/- Joined texts: CopyResponse with the copy's row; a slot that holds a response. The conditions stand in each line. -/
import Derived.Test.YtcaekfebnhedpaaGreatDoorM11
import Derived.Test.YtcaekfebnhedpaaGreatDoorM31
set_option linter.unusedVariables false
set_option linter.unusedSimpArgs false
namespace Go.Proofs.YtcaekfebnhedpaaGreatDoor
open Go.RowKit

set_option maxRecDepth 100000
set_option maxHeartbeats 1000000 in
theorem copyResponse_own (st : Int) (rs : List UInt8) (minor : Int) (A : Option Addr) (n c : Nat) (l : List Fld) (w : World) (hl : RdF w A n l) (hn : n ≤ 1048576) :
    Calls Tryz.prog 15 #[respV st rs minor A n c] w fun e w' => ∃ A' n' c', e = .returned (respV st rs minor A' n' c') ∧ OwnF w' w.heap.size (.slice A' n' c') l ∧ Below w.heap.size w w' := by
  unfold respV
  have hal1 := alloc_below w (.cells #[.int .i64 st, .string (bs rs), .int .i64 minor, .slice A n c] 31)
  have hr1 := heap_alloc_new w (.cells #[.int .i64 st, .string (bs rs), .int .i64 minor, .slice A n c] 31)
  have hal2 := alloc_below (w.alloc (.cells #[.int .i64 st, .string (bs rs), .int .i64 minor, .slice A n c] 31)) (.cells #[.int .i64 0, .string ⟨#[]⟩, .int .i64 0, .slice none 0 0] 31)
  have hb0 := bnext hal1 hal2 hal1.size
  have hl2 := (hl.step hal1).step hal2
  have hr2 := heap_alloc_new (w.alloc (.cells #[.int .i64 st, .string (bs rs), .int .i64 minor, .slice A n c] 31)) (.cells #[.int .i64 0, .string ⟨#[]⟩, .int .i64 0, .slice none 0 0] 31)
  rw [show (w.alloc (.cells #[.int .i64 st, .string (bs rs), .int .i64 minor, .slice A n c] 31)).heap.size = w.heap.size + 1 by simp] at hr2
  have hr1a := row_keep hr1 hal2
  have hC := copyFields_own A n c l _ hl2 (by omega)
  clear hal1 hal2 hl hl2 hr1
  go_enter Tryz.func15, Tryz.ntmps15
  go_wp2_with fail
  refine hC.mono ?_
  rintro e w1 ⟨A', n', c', rfl, hown, hb1⟩
  have hr1b := row_keep hr1a hb1
  have hr2b := row_keep hr2 hb1
  have hbA := bnext hb0 hb1 hb0.size
  have hrd := hown.rd
  have hlt : w.heap.size + 2 ≤ w1.heap.size := by have := hb1.size; simpa using this
  obtain ⟨a0, a1, a2, a3, g0, g1, g2, g3⟩ := row_facts4 hr1b
  obtain ⟨c0, c1, c2, c3, f0, f1, f2, f3⟩ := row_facts4 hr2b
  clear hr1a hr2 hr1b hr2b hb1 hb0 hC
  rw [show ((w.alloc (.cells #[.int .i64 st, .string (bs rs), .int .i64 minor, .slice A n c] 31)).alloc (.cells #[.int .i64 0, .string ⟨#[]⟩, .int .i64 0, .slice none 0 0] 31)).heap.size = w.heap.size + 2 by simp] at hown
  go_wp2
  refine bodyPost_ret (v := .agg #[.int .i64 st, .string (bs rs), .int .i64 minor, .slice A' n' c']) (by simp [results, Tryz.results15, go_sem, c0, c1, c2, c3]) rfl ⟨A', n', c', rfl, (((((hown.setCell (by simp) _).setCell (by simp) _).setCell (by simp) _).setCell (by simp) _).setCell (by simp) _).mono (by omega), ((((hbA.setCell (by simp) _).setCell (by simp) _).setCell (by simp) _).setCell (by simp) _).setCell (by simp) _⟩
/-- A response with fields of the call's own. -/
def tQ (i p Bs : Nat) (st : Int) (rs : List UInt8) (minor : Int) (l : List Fld) : Tr := ⟨i, p, fun W v => ∃ A n c, v = .agg #[.int .i64 st, .string (bs rs), .int .i64 minor, .slice A n c] ∧ OwnF W Bs (.slice A n c) l⟩
section
variable {i p Bs g : Nat} {tr : List Tr} {st minor : Int} {rs : List UInt8} {l : List Fld}
@[simp] theorem tQ_i : (tQ i p Bs st rs minor l).i = i := rfl
@[simp] theorem tQ_p : (tQ i p Bs st rs minor l).p = p := rfl
theorem tQ_ok (hg : g < Bs) (h : TrOK g tr) : TrOK g (tQ i p Bs st rs minor l :: tr) :=
  h.cons (fun W W' v hb ⟨A, n, c, e, ho⟩ => ⟨A, n, c, e, ho.step hb⟩) (fun W u o v ⟨A, n, c, e, ho⟩ => ⟨A, n, c, e, own_setG ho hg u⟩)
end
end Go.Proofs.YtcaekfebnhedpaaGreatDoor
