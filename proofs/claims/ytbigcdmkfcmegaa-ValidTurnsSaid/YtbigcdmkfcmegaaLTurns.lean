/- ValidTurns: for every input the law answers true and leaves its arguments as they were. No conditions. -/
import Derived.Test.YtbigcdmkfcmegaaRows
import Derived.Test.YtbigcdmkfcmegaaAlive18
import Derived.Test.YtbigcdmkfcmegaaOpen
import Derived.Test.YtbigcdmkfcmegaaBulk
import Derived.WalkKit
import Derived.ProofKit
import Derived.OpenShut
import Derived.JoinedCond
set_option linter.unusedVariables false
set_option linter.unusedSimpArgs false
namespace Go.Proofs.Ytbigcdmkfcmegaa.validTurns
open Go.ChangeShapes Go.WideShapes Go.ChangeAt Go.RowKit

theorem same_sym (a b : List UInt8) (s : Bool) : sameR b a s = sameR a b s := by
  unfold sameR
  have e : ((tgR b).1 == (tgR a).1) = ((tgR a).1 == (tgR b).1) := by rw [Bool.eq_iff_iff, beq_iff_eq, beq_iff_eq]; exact eq_comm
  rw [e]
  cases (tgR a).2.2 <;> cases (tgR b).2.2 <;> cases ((tgR a).1 == (tgR b).1) <;> cases s <;> cases (tgR a).2.1 <;> cases (tgR b).2.1 <;> rfl
theorem same_self1 (a : List UInt8) : sameR a a false = (tgR a).2.2 := by unfold sameR; simp
theorem same_self2 (a : List UInt8) : sameR a a true = ((tgR a).2.2 && !(tgR a).2.1) := by
  unfold sameR
  have e : ((tgR a).1 == (tgR a).1) = true := by simp
  rw [e]
  cases (tgR a).2.2 <;> cases (tgR a).2.1 <;> rfl
theorem same_weak (a b : List UInt8) : (!sameR a b true || sameR a b false) = true := by
  unfold sameR
  cases (tgR a).2.2 <;> cases (tgR b).2.2 <;> cases ((tgR a).1 == (tgR b).1) <;> simp
set_option maxHeartbeats 1000000 in
theorem walk (w : World) (a : List UInt8) (ha : a.length ≤ 140737488351232) (b : List UInt8) (hb : b.length ≤ 140737488351232) :
    Calls Try.prog 5 #[.string (bs a), .string (bs b)] w fun e w' => e = .returned (.bool true) ∧ Below w.heap.size w w' := by
  have HW := Lib.hid (same_weak a b)
  have H1 := Lib.hid (same_self1 a)
  have H2 := Lib.hid (same_self2 a)
  have S1 := Lib.hid (same_sym a b)
  go_enter Try.func5, Try.ntmps5
  go_wp2_with fail
  refine (alive18 w).mono ?_
  rintro e w1 ⟨rfl, hb1⟩
  go_wp2_with fail
  refine (tag_p a _ (by omega)).mono ?_
  rintro e w' ⟨rfl, rfl⟩
  unfold tgV
  generalize tgR a = ra at *
  go_wp2_with fail
  refine (same_p a b true _ (by omega) (by omega)).mono ?_
  rintro e w' ⟨rfl, rfl⟩
  go_wp2_with fail
  refine (same_p b a true _ (by omega) (by omega)).mono ?_
  rintro e w' ⟨rfl, rfl⟩
  rw [S1.out]
  go_wp2_with fail
  refine (same_p a b false _ (by omega) (by omega)).mono ?_
  rintro e w' ⟨rfl, rfl⟩
  go_wp2_with fail
  refine (same_p b a false _ (by omega) (by omega)).mono ?_
  rintro e w' ⟨rfl, rfl⟩
  rw [S1.out]
  go_wp2_with fail
  refine (same_p a a false _ (by omega) (by omega)).mono ?_
  rintro e w' ⟨rfl, rfl⟩
  rw [H1.out]
  go_wp2_with fail
  refine (same_p a a true _ (by omega) (by omega)).mono ?_
  rintro e w' ⟨rfl, rfl⟩
  rw [H2.out]
  clear H1 H2 S1
  obtain ⟨x, v, ok⟩ := ra
  simp only
  go_wp2_with fail
  all_goals
    refine (same_p a b true _ (by omega) (by omega)).mono ?_
    rintro e w' ⟨rfl, rfl⟩
    cases hs1 : sameR a b true
    · go_wp2
      go_ret
      exact ⟨ret_bool (by simp), hb1⟩
    · have HB : Hid (sameR a b false = true) := Lib.hid (by have := HW.out; rw [hs1] at this; simpa using this)
      go_wp2_with fail
      refine (same_p a b false _ (by omega) (by omega)).mono ?_
      rintro e w' ⟨rfl, rfl⟩
      rw [HB.out]
      go_wp2
      go_ret
      exact ⟨ret_bool (by simp), hb1⟩

theorem own : ownKnob Try.prog.godebug = none := by kernel_rfl
theorem contract (H : Type) (enc : TypeId × Value → H) (W : World) (base : Nat) (args : Array Value) (ds gs : List (DataW H)) (before : List MemPlace)
    (hval : ∀ (j : Nat) t v, Try.f5.params[j]? = some t → args[j]? = some v → Value.okWide Try.prog W .any base t v)
    (hW : DataW.Whole enc Try.prog Try.f5.params.toList Rows.validTurnsSpec.vars false W args.toList ds gs before) (hsz : (DataW.weightsEach Try.prog (Try.f5.params.toList ++ Rows.validTurnsSpec.plain.varTypes Try.prog) (ds ++ gs)).all (· ≤ reachBytes) = true) :
    Calls Try.prog 5 args W fun e W' => ∃ v, e = .returned v ∧ Rows.validTurnsSpec.post enc Try.prog Try.f5 false true false false W args v W' := by
  have hW' := hW
  obtain ⟨p, q, hA0, hV, rfl, hfz, hnd⟩ := hW
  have hA : DataW.TrodAll enc Try.prog W 0 (fun _ => true) true Try.f5.params.toList args.toList ds p := hA0
  rw [Try.params5] at hA hval hsz
  obtain ⟨v0, vs0, d0, ds0, p0, q0, hargs, rfl, rfl, h0, r0⟩ := trodAll_cons hA
  obtain ⟨v1, vs1, d1, ds1, p1, q1, rfl, rfl, rfl, h1, r1⟩ := trodAll_cons r0
  obtain ⟨rfl, rfl, rfl⟩ := trodAll_nil r1
  obtain rfl : args = #[v0, v1] := by cases args; simp_all
  obtain ⟨rfl, rfl⟩ := trodVars_none hV
  obtain ⟨s0, rfl, e0⟩ := opS (hval 0 9 v0 rfl rfl) h0
  obtain ⟨s1, rfl, e1⟩ := opS (hval 1 9 v1 rfl rfl) h1
  have hl0 : s0.length ≤ 140737488351232 := by have := sized_string (bytes := s0) hsz (j := 0) (t := 9) rfl (by rw [e0]; rfl); unfold reachBytes at this; omega
  have hl1 : s1.length ≤ 140737488351232 := by have := sized_string (bytes := s1) hsz (j := 1) (t := 9) rfl (by rw [e1]; rfl); unfold reachBytes at this; omega
  clear hA0
  refine (walk W s0 hl0 s1 hl1).mono fun e W' ⟨he, hg⟩ => ?_
  subst he
  exact ⟨_, rfl, post_of_below (pa := p0 ++ (p1 ++ ([]))) (pv := []) hW' (fun _ _ _ => (trodAll_cons_mk (shut_bool Try.underlying4 _) trodAll_mk0)) (fun sp hsp => (trodAll_cons_mk (arg_stays laidOut (by kernel_rfl) (of_decide_eq_true (by kernel_rfl)) h0 hg (fun x hx => hW'.lt x (by simp [hx])) sp (fun x hx => hsp x (by simp [hx]))) (trodAll_cons_mk (arg_stays laidOut (by kernel_rfl) (of_decide_eq_true (by kernel_rfl)) h1 hg (fun x hx => hW'.lt x (by simp [hx])) sp (fun x hx => hsp x (by simp [hx]))) trodAll_mk0))) (fun _ _ => rfl) rfl
    hg (ok_one (by kernel_rfl) rfl (okWide_bool_mk Try.underlying4 _))⟩

set_option maxRecDepth 100000 in
theorem lifted (os : Os) (started : os.Started) (H : Type) (enc : TypeId × Value → H) :
    ReturnsInHanded {} Try.checked os 5 .any (Rows.validTurnsSpec.pre6 enc Try.prog Try.f5 Rows.validTurnsRow.domain false) (Rows.validTurnsSpec.post enc Try.prog Try.f5 false true false false) := by
  refine returnsInHanded_of_change_sized (C := Try.checked) own started (by kernel_rfl) Try.func5
    (ChangeSpec.witness6 (enc := enc) (C := Try.checked) false ⟨#[], #[.string ⟨#[]⟩, .string ⟨#[]⟩], []⟩ 8 (by kernel_rfl) (by kernel_rfl) (by kernel_rfl) (by kernel_rfl)) ?_
  intro W base args ds gs before hval hW _ hsz _
  exact contract H enc W base args ds gs before hval hW hsz

theorem over : Rows.validTurnsRow.holds Try.pinned (OpenSpec.ofChange Rows.validTurnsSpec) :=
  OpenClaim.holds_of_wide 5 Try.f5 rfl rfl rfl rfl rfl rfl rfl ⟨rfl, rfl, rfl, rfl, rfl⟩ rfl rfl rfl rfl rfl (by kernel_rfl) Try.func5 (by kernel_rfl)
    (of_decide_eq_true (by kernel_rfl)) (by unfold Func.isWrapper; first | (rw [if_pos (by decide +kernel)]; kernel_rfl) | (rw [if_neg (by decide +kernel)]; exact ⟨rfl, rfl⟩))
    (fun os started H enc _ => lifted os started H enc)

theorem proved : Rows.ValidTurnsSaid :=
  over
end Go.Proofs.Ytbigcdmkfcmegaa.validTurns
