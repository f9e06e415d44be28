/- (every seat) The library's variable MaxLen holds some int; strings.Cut at one byte. Conditions: the text's length at most 2^30. -/
import Derived.Test.YtfhkgbimnfjfhaaDoorShf
import Derived.Test.YtfhkgbimnfjfhaaDoorUr
import Derived.Test.YtfhkgbimnfjfhaaDoorByt
import Derived.Test.YtfhkgbimnfjfhaaDoorFold
import Derived.Shelf.Vars
set_option linter.unusedVariables false
set_option linter.unusedSimpArgs false
namespace Go.Proofs.YtfhkgbimnfjfhaaDoor
open Go.RowKit

set_option maxRecDepth 100000
/-- The library's variable holds some int. -/
def MaxL (w : World) : Prop := ∃ m : Int, w.cell? ⟨0, 0, none⟩ = some (.int .i64 m)
theorem maxl_b {w w' : World} (h : MaxL w) (hb : Below w.heap.size w w') : MaxL w' := by
  obtain ⟨m, hm⟩ := h
  exact ⟨m, (World.cell?_of_block (hb.block _ (World.block_lt_of_cell? w _ hm))).trans hm⟩
theorem maxl_of {W : World} (h : W.ShapedOpen Tryd.prog) : MaxL W := cell_of_shapedOpen_int (k := .i64) h (of_decide_eq_true (by kernel_rfl)) (t := 3) (zero := #[.int .i64 0]) (by kernel_rfl) rfl (by kernel_rfl) (by kernel_rfl) Tryd.underlying3
theorem cut_any (s : List UInt8) (c : UInt8) (w : World) (hM : MaxL w) (hs : s.length ≤ 1073741824) :
    Calls Tryd.prog 40 #[.string (bs s), .string ⟨#[c]⟩] w fun e w' => e = .returned (.tuple #[.string (bs (Ur.cutA c s)), .string (bs (Ur.cutB c s)), .bool (Ur.hasC c s)]) ∧ Below w.heap.size w w' := by
  obtain ⟨m, hm⟩ := hM
  refine (Tryd.strings_Cut (bs s) ⟨#[c]⟩ m w (by simp; omega) hm).mono fun e w' h => ⟨?_, ?_⟩
  · have h1 := h.1
    rw [show (ByteArray.mk #[c]).data.toList = [c] from rfl, bs_data, Ur.lib_cut] at h1
    exact h1
  · obtain ⟨n, h2⟩ := h.2
    rw [h2]; exact below_drewN (Below.refl _ _) n
end Go.Proofs.YtfhkgbimnfjfhaaDoor
