/- The reference's Last. Conditions: at most 2^20 fields, texts of at most 2^20 bytes. -/
import Derived.Test.YtocgnjkikgcjdaaDoorLast
set_option linter.unusedVariables false
set_option linter.unusedSimpArgs false
namespace Go.Proofs.YtocgnjkikgcjdaaDoor
open Go.RowKit

set_option maxHeartbeats 1000000 in
theorem lastR_any (minor : Int) (A : Option Addr) (n c : Nat) (l : List Fld) (w : World) (hl : RdF w A n l) (hn : n ≤ 1048576) (hls : FlenS l) :
    Calls Tryd.prog 11 #[.int .i64 minor, .slice A n c] w fun e w' => e = .returned (.bool (lastL minor l)) ∧ Below w.heap.size w w' := by
  have HP : Hid ((hasL l [99, 111, 110, 110, 101, 99, 116, 105, 111, 110] [99, 108, 111, 115, 101] || ((minor == 0) && !hasL l [99, 111, 110, 110, 101, 99, 116, 105, 111, 110] [107, 101, 101, 112, 45, 97, 108, 105, 118, 101])) = lastL minor l) := Lib.hid rfl
  go_enter Tryd.func11, Tryd.ntmps11
  go_wp2_with fail
  refine (has_any A n c l [99, 111, 110, 110, 101, 99, 116, 105, 111, 110] [99, 108, 111, 115, 101] w hl hn hls (by simp) (by simp)).mono ?_
  rintro e w1 ⟨rfl, hb1⟩
  have hk := has_any A n c l [99, 111, 110, 110, 101, 99, 116, 105, 111, 110] [107, 101, 101, 112, 45, 97, 108, 105, 118, 101] w1 (hl.step hb1) hn hls (by simp) (by simp)
  cases h1 : hasL l [99, 111, 110, 110, 101, 99, 116, 105, 111, 110] [99, 108, 111, 115, 101]
  · by_cases hm : minor = 0
    · have hm2 : (minor == 0) = true := by simp [hm]
      rw [h1, hm2] at HP
      go_wp2_with fail
      refine hk.mono ?_
      rintro e w2 ⟨rfl, hb2⟩
      go_wp2
      go_ret
      exact ⟨ret_bool HP.out, bnext hb1 hb2 hb1.size⟩
    · have hm2 : (minor == 0) = false := by simp [hm]
      rw [h1, hm2] at HP
      go_wp2
      go_ret
      exact ⟨ret_bool HP.out, hb1⟩
  · rw [h1] at HP
    go_wp2
    go_ret
    exact ⟨ret_bool HP.out, hb1⟩
end Go.Proofs.YtocgnjkikgcjdaaDoor
