/- DateDays: for every year, month and day the program's Day and Civil answer what the document's reference answers. No conditions. -/
import Derived.Test.YtfldfkipkfpdjaaRows
import Derived.Test.YtfldfkipkfpdjaaDwC
import Derived.Test.YtfldfkipkfpdjaaPost
import Derived.WalkKit
import Derived.ProofKit
import Derived.OpenShut
import Derived.Lib.Hide
set_option linter.unusedVariables false
set_option linter.unusedSimpArgs false
namespace Go.Proofs.Ytfldfkipkfpdjaa.dateDays
open Go.ChangeShapes Go.WideShapes Go.ChangeAt Go.RowKit

theorem own : ownKnob Try.prog.godebug = none := by kernel_rfl

def TheDay (y m d : Int) : Int × Int := if Cal.valid y m d then (Cal.num y m d, 0) else (0, 20)
theorem day_p (y m d : Int) (w : World) : Calls Try.prog 4 #[.int .i64 y, .int .i64 m, .int .i64 d] w fun e w' => e = .returned (.tuple #[.int .i64 (TheDay y m d).1, .int .i64 (TheDay y m d).2]) ∧ w = w' := by
  by_cases h : Cal.valid y m d
  · simp only [TheDay, if_pos h]; exact day_yes y m d w h
  · simp only [TheDay, if_neg h]; exact day_no y m d w h
theorem day_r (y m d : Int) (w : World) : Calls Try.prog 5 #[.int .i64 y, .int .i64 m, .int .i64 d] w fun e w' => e = .returned (.tuple #[.int .i64 (TheDay y m d).1, .int .i64 (TheDay y m d).2]) ∧ Below w.heap.size w w' := by
  by_cases h : Cal.valid y m d
  · simp only [TheDay, if_pos h]; exact rday_yes y m d w h
  · simp only [TheDay, if_neg h]
    by_cases h1 : 1970 ≤ y ∧ y ≤ 9999 ∧ 1 ≤ m ∧ m ≤ 12 ∧ 1 ≤ d
    · exact rday_no2 y m d w h1 (by rcases Int.lt_or_le (Cal.len y m) d with g | g; exact g; exact absurd ⟨h1.1, h1.2.1, h1.2.2.1, h1.2.2.2.1, h1.2.2.2.2, g⟩ h)
    · exact rday_no1 y m d w h1
def tcA (n : Int) : Int × Int × Int × Int := if 0 ≤ n ∧ n ≤ 2932896 then (Cal.tcY ((n + 719468) / 146097) ((n + 719468) % 146097), Cal.tcM ((n + 719468) % 146097), Cal.tcD ((n + 719468) % 146097), 0) else (0, 0, 0, 20)
theorem civil_p (n : Int) (w : World) : Calls Try.prog 6 #[.int .i64 n] w fun e w' => e = .returned (.tuple #[.int .i64 (tcA n).1, .int .i64 (tcA n).2.1, .int .i64 (tcA n).2.2.1, .int .i64 (tcA n).2.2.2]) ∧ w = w' := by
  by_cases h : 0 ≤ n ∧ n ≤ 2932896
  · simp only [tcA, if_pos h]; exact civil_yes n w h.1 h.2
  · simp only [tcA, if_neg h]; exact civil_no n w h
theorem civil_r (n : Int) (w : World) : Calls Try.prog 7 #[.int .i64 n] w fun e w' => e = .returned (.tuple #[.int .i64 (tcA n).1, .int .i64 (tcA n).2.1, .int .i64 (tcA n).2.2.1, .int .i64 (tcA n).2.2.2]) ∧ Below w.heap.size w w' := by
  by_cases h : 0 ≤ n ∧ n ≤ 2932896
  · simp only [tcA, if_pos h]
    refine (rcivil_yes n w h.1 h.2).mono ?_
    rintro e w' ⟨y, m, d, ⟨hv, hn⟩, rfl, hb⟩
    obtain ⟨_, _, _, t4, t5⟩ := Cal.tc_all n h.1 (by omega)
    obtain ⟨rfl, rfl, rfl⟩ := Cal.num_inj _ _ _ _ _ _ hv (t4 h.2) (by rw [hn, t5])
    exact ⟨rfl, hb⟩
  · simp only [tcA, if_neg h]; exact (rcivil_no n w h).mono fun _ _ ⟨he, hw⟩ => ⟨he, by subst hw; exact Below.refl _ _⟩

theorem start_ok : TheDay 2000 2 29 = (11016, 0) := by decide
set_option maxHeartbeats 1000000 in
theorem walk (a0 : Int) (a1 : Int) (a2 : Int) (w : World) :
    Calls Try.prog 3 #[.int .i64 a0, .int .i64 a1, .int .i64 a2] w fun e w' => e = .returned (.bool true) ∧ Below w.heap.size w w' := by
  have hs := start_ok
  have hs1 : (TheDay 2000 2 29).1 = 11016 := by rw [hs]
  have hs2 : (TheDay 2000 2 29).2 = 0 := by rw [hs]
  clear hs
  go_enter Try.func3, Try.ntmps3
  go_wp2_with fail
  refine (day_p _ _ _ _).mono ?_
  rintro e w' ⟨rfl, rfl⟩
  rw [hs1, hs2]
  clear hs1 hs2
  go_wp2_with fail
  refine (day_p _ _ _ _).mono ?_
  rintro e w' ⟨rfl, rfl⟩
  go_wp2_with fail
  refine (day_r _ _ _ _).mono ?_
  rintro e w1 ⟨rfl, hb1⟩
  go_wp2_with fail
  refine (civil_p _ _).mono ?_
  rintro e w' ⟨rfl, rfl⟩
  go_wp2_with fail
  refine (civil_r _ _).mono ?_
  rintro e w2 ⟨rfl, hb2⟩
  go_wp2_with fail
  go_ret
  exact ⟨by simp, hb1.trans (hb2.mono hb1.size)⟩

/-! ### THE ROW's STEP -/
set_option maxRecDepth 100000 in
theorem lifted (os : Os) (started : os.Started) (H : Type) (enc : TypeId × Value → H) :
    ReturnsInHanded {} Try.checked os 3 .any (Rows.dateDaysSpec.pre6 enc Try.prog Try.f3 Rows.dateDaysRow.domain false) (Rows.dateDaysSpec.post enc Try.prog Try.f3 false true false false) := by
  refine returnsInHanded_of_change (C := Try.checked) own started (by kernel_rfl) Try.func3
    (ChangeSpec.witness6 (enc := enc) (C := Try.checked) false ⟨#[], #[.int .i64 0, .int .i64 0, .int .i64 0], []⟩ 8 (by kernel_rfl) (by kernel_rfl) (by kernel_rfl) (by kernel_rfl)) ?_
  intro W base args ds gs before hval0 hW hcnd _
  have hval : ∀ (j : Nat) t v, Try.f3.params[j]? = some t → args[j]? = some v → Value.okWide Try.prog W .any base t v := hval0
  have hW' := hW
  obtain ⟨p, q, hA0, hV, rfl, hfz, hnd⟩ := hW
  have hA : DataW.TrodAll enc Try.prog W 0 (fun _ => true) true Try.f3.params.toList args.toList ds p := hA0
  rw [Try.params3] at hA hval
  obtain ⟨v0, vs0, d0, ds0, p0, q0, hargs, rfl, rfl, h0, r0⟩ := trodAll_cons hA
  obtain ⟨v1, vs1, d1, ds1, p1, q1, rfl, rfl, rfl, h1, r1⟩ := trodAll_cons r0
  obtain ⟨v2, vs2, d2, ds2, p2, q2, rfl, rfl, rfl, h2, r2⟩ := trodAll_cons r1
  obtain ⟨rfl, rfl, rfl⟩ := trodAll_nil r2
  obtain rfl : args = #[v0, v1, v2] := by cases args; simp_all
  obtain ⟨rfl, rfl⟩ := trodVars_none hV
  obtain ⟨a0, rfl, rfl, rfl, w0⟩ := open_int Try.underlying3 (hval 0 3 v0 rfl rfl) h0
  obtain ⟨a1, rfl, rfl, rfl, w1⟩ := open_int Try.underlying3 (hval 1 3 v1 rfl rfl) h1
  obtain ⟨a2, rfl, rfl, rfl, w2⟩ := open_int Try.underlying3 (hval 2 3 v2 rfl rfl) h2
  clear hA0 hval0
  simp only [List.append_nil] at hW'
  refine (walk a0 a1 a2 W).mono fun e W' ⟨he, hg⟩ => ?_
  subst he
  exact ⟨_, rfl, post_of_below (pa := []) (pv := []) hW' (fun _ _ _ => (trodAll_cons_mk (shut_bool Try.underlying4 _) trodAll_mk0)) (fun sp _ => (trodAll_cons_mk (shut_int Try.underlying3 w0) (trodAll_cons_mk (shut_int Try.underlying3 w1) (trodAll_cons_mk (shut_int Try.underlying3 w2) trodAll_mk0)))) (fun _ _ => rfl) rfl
    hg (ok_one (by kernel_rfl) rfl (okWide_bool_mk Try.underlying4 _))⟩

theorem over : Rows.dateDaysRow.holds Try.pinned (OpenSpec.ofChange Rows.dateDaysSpec) :=
  OpenClaim.holds_of_wide 3 Try.f3 rfl rfl rfl rfl rfl rfl rfl ⟨rfl, rfl, rfl, rfl, rfl⟩ rfl rfl rfl rfl rfl (by kernel_rfl) Try.func3 (by kernel_rfl)
    (of_decide_eq_true (by kernel_rfl)) (by unfold Func.isWrapper; first | (rw [if_pos (by decide +kernel)]; kernel_rfl) | (rw [if_neg (by decide +kernel)]; exact ⟨rfl, rfl⟩))
    (fun os started H enc _ => lifted os started H enc)

/-- ████ THE STATEMENT ████ -/
theorem proved : Rows.DateDaysSaid :=
  over
#print axioms proved
end Go.Proofs.Ytfldfkipkfpdjaa.dateDays
