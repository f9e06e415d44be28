/- frame.OfResponse and the reference's: how a response's body ends. Conditions: at most 2^20 fields, texts of at most 2^20 bytes. -/
import Derived.Test.YtocgnjkikgcjdaaDoorBody
set_option linter.unusedVariables false
set_option linter.unusedSimpArgs false
namespace Go.Proofs.YtocgnjkikgcjdaaDoor
open Go.RowKit

/-- A response as the program has it by value. -/
def respV (st : Int) (rs : List UInt8) (minor : Int) (A : Option Addr) (n c : Nat) : Value := .agg #[.int .i64 st, .string (bs rs), .int .i64 minor, .slice A n c]
def mHEAD : List UInt8 := [72, 69, 65, 68]
def mCONN : List UInt8 := [67, 79, 78, 78, 69, 67, 84]
/-- Has a response never a body? -/
def bareL (st : Int) (m : List UInt8) : Bool := m == mHEAD || st == 204 || st == 304 || decide (100 ≤ st ∧ st ≤ 199) || (m == mCONN && decide (200 ≤ st ∧ st ≤ 299))
def respL (st : Int) (m : List UInt8) (minor : Int) (l : List Fld) : Int × Int × Int := if bareL st m = true then (0, 0, 0) else ruleL minor l 3
theorem ruleL_other (minor : Int) (l : List Fld) : ruleL minor l 3 = if (ruleL minor l 0).2.2 = 0 ∧ (ruleL minor l 0).1 = 0 then (3, (ruleL minor l 0).2.1, 0) else ruleL minor l 0 := by
  unfold ruleL
  split
  · split
    · rfl
    · split <;> rfl
  · split
    · rfl
    · split
      · rename_i h; simp
      · rename_i h; simp [h]
theorem tdiv_class (st : Int) (h1 : -9223372036854775808 ≤ st) (h2 : st ≤ 9223372036854775807) : (st.tdiv 100 == 1) = decide (100 ≤ st ∧ st ≤ 199) ∧ (st.tdiv 100 == 2) = decide (200 ≤ st ∧ st ≤ 299) := by
  rcases Int.lt_or_le st 0 with h | h
  · have e : st.tdiv 100 ≤ 0 := by
      obtain ⟨k, rfl⟩ : ∃ k, st = -k := ⟨-st, by omega⟩
      rw [Int.neg_tdiv]
      have := Int.tdiv_nonneg (a := k) (b := 100) (by omega) (by omega)
      omega
    constructor <;> rw [Bool.eq_iff_iff] <;> simp <;> omega
  · rw [Int.tdiv_eq_ediv_of_nonneg h]
    constructor <;> rw [Bool.eq_iff_iff] <;> simp <;> omega

def respO (st : Int) (m : List UInt8) (minor : Int) (l : List Fld) : Value := bodyV (respL st m minor l)
theorem bare_yes {st : Int} {m : List UInt8} {minor : Int} {l : List Fld} (h : bareL st m = true) : respO st m minor l = bodyV (0, 0, 0) := by unfold respO respL; rw [if_pos h]
theorem bare_no {st : Int} {m : List UInt8} {minor : Int} {l : List Fld} (h : bareL st m = false) : respO st m minor l = bodyV (ruleL minor l 3) := by unfold respO respL; rw [if_neg (by rw [h]; decide)]
set_option maxHeartbeats 1000000 in
theorem ofResponse_any (st : Int) (rs : List UInt8) (minor : Int) (A : Option Addr) (n c : Nat) (l : List Fld) (m : List UInt8) (w : World) (h1 : -9223372036854775808 ≤ st) (h2 : st ≤ 9223372036854775807) (hl : RdF w A n l) (hn : n ≤ 1048576) (hls : FlenS l) :
    Calls Tryd.prog 22 #[respV st rs minor A n c, .string (bs m)] w fun e w' => e = .returned (respO st m minor l) ∧ Below w.heap.size w w' := by
  unfold respV
  have hal1 := alloc_below w (.cells #[.int .i64 st, .string (bs rs), .int .i64 minor, .slice A n c] 46)
  have hal2 := alloc_below (w.alloc (.cells #[.int .i64 st, .string (bs rs), .int .i64 minor, .slice A n c] 46)) (.cells #[.int .i64 0, .int .i64 0] 31)
  have hb0 := bnext hal1 hal2 hal1.size
  have hl2 := (hl.step hal1).step hal2
  have hnew := heap_alloc_new (w.alloc (.cells #[.int .i64 st, .string (bs rs), .int .i64 minor, .slice A n c] 46)) (.cells #[.int .i64 0, .int .i64 0] 31)
  rw [show (w.alloc (.cells #[.int .i64 st, .string (bs rs), .int .i64 minor, .slice A n c] 46)).heap.size = w.heap.size + 1 by simp] at hnew
  obtain ⟨t1, t2⟩ := tdiv_class st h1 h2
  clear hal1 hal2 hl
  by_cases hbare : bareL st m = true
  · have HR := Lib.hid (bare_yes (minor := minor) (l := l) hbare)
    clear hl2
    obtain ⟨c0, c1, f0, f1⟩ := res_facts hnew
    have hcs : (m == [72, 69, 65, 68]) = true ∨ ((m == [72, 69, 65, 68]) = false ∧ ((st == 204) = true ∨ ((st == 204) = false ∧ ((st == 304) = true ∨ ((st == 304) = false ∧ ((st.tdiv 100 == 1) = true ∨ ((st.tdiv 100 == 1) = false ∧ (m == [67, 79, 78, 78, 69, 67, 84]) = true ∧ (st.tdiv 100 == 2) = true))))))) := by
      unfold bareL mHEAD mCONN at hbare
      rw [← t1, ← t2] at hbare
      cases e1 : (m == [72, 69, 65, 68]) <;> cases e2 : (st == 204) <;> cases e3 : (st == 304) <;> cases e4 : (st.tdiv 100 == 1) <;> simp_all
    clear t1 t2 hbare hnew
    have HF : Hid (Below w.heap.size w ((w.alloc (.cells #[.int .i64 st, .string (bs rs), .int .i64 minor, .slice A n c] 46)).alloc (.cells #[.int .i64 0, .int .i64 0] 31))) := Lib.hid hb0
    clear hb0
    generalize respO st m minor l = R at *
    rcases hcs with d1 | ⟨d1, d2 | ⟨d2, d3 | ⟨d3, d4 | ⟨d4, d5, d6⟩⟩⟩⟩
    all_goals
      go_enter Tryd.func22, Tryd.ntmps22
      go_wp2
      refine bodyPost_ret (v := bodyV (0, 0, 0)) (by simp [results, Tryd.results22, go_sem, c0, c1, bodyV]) rfl ⟨by rw [HR.out], ?_⟩
      first | exact HF.out | exact (HF.out.setCell (by simp) _).setCell (by simp) _ | (simp only [World.setCell_alloc]; exact HF.out)
  · have hbf : bareL st m = false := by simpa using hbare
    have HR := Lib.hid (bare_no (minor := minor) (l := l) hbf)
    have hcs : (m == [72, 69, 65, 68]) = false ∧ (st == 204) = false ∧ (st == 304) = false ∧ (st.tdiv 100 == 1) = false ∧ ((m == [67, 79, 78, 78, 69, 67, 84]) = false ∨ ((m == [67, 79, 78, 78, 69, 67, 84]) = true ∧ (st.tdiv 100 == 2) = false)) := by
      unfold bareL mHEAD mCONN at hbf
      rw [← t1, ← t2] at hbf
      cases e1 : (m == [72, 69, 65, 68]) <;> cases e2 : (st == 204) <;> cases e3 : (st == 304) <;> cases e4 : (st.tdiv 100 == 1) <;> cases e5 : (m == [67, 79, 78, 78, 69, 67, 84]) <;> simp_all
    obtain ⟨d1, d2, d3, d4, d56⟩ := hcs
    have hR := rule_any minor A n c l 3 _ hl2 hn hls
    have HX : Hid (∃ x y z : Int, bodyV (ruleL minor l 3) = .tuple #[.agg #[.int .i64 x, .int .i64 y], .int .i64 z]) := Lib.hid ⟨_, _, _, rfl⟩
    clear t1 t2 hbf hbare hl2
    generalize bodyV (ruleL minor l 3) = Q at *
    generalize respO st m minor l = R at *
    obtain rfl : R = Q := HR.out
    clear HR
    rcases d56 with d5 | ⟨d5, d6⟩
    all_goals
      go_enter Tryd.func22, Tryd.ntmps22
      go_wp2_with fail
      refine hR.mono ?_
      rintro e w1 ⟨rfl, hb1⟩
      have hr1 := res_keep hnew hb1
      have hbA := bnext hb0 hb1 hb0.size
      obtain ⟨c0, c1, f0, f1⟩ := res_facts hr1
      obtain ⟨x, y, z, rfl⟩ := HX.out
      clear HX
      clear hr1 hb1 hb0 hnew hR
      go_wp2
      refine bodyPost_ret (v := .tuple #[.agg #[.int .i64 x, .int .i64 y], .int .i64 z]) (by simp [results, Tryd.results22, go_sem, c0, c1]) rfl ⟨rfl, (hbA.setCell (by simp) _).setCell (by simp) _⟩
end Go.Proofs.YtocgnjkikgcjdaaDoor
