/- ValidMerges: for every input within the second form's bound the law answers true and leaves its arguments as they were. Condition: the bulk of the arguments at most 1048576. -/
import Derived.Test.YtbigcdmkfcmegaaRows
import Derived.Test.YtbigcdmkfcmegaaAlive18
import Derived.Test.YtbigcdmkfcmegaaOpen
import Derived.Test.YtbigcdmkfcmegaaBulk
import Derived.WalkKit
import Derived.ProofKit
import Derived.OpenShut
import Derived.JoinedCond
set_option linter.unusedVariables false
set_option linter.unusedSimpArgs false
namespace Go.Proofs.Ytbigcdmkfcmegaa.validMerges
open Go.ChangeShapes Go.WideShapes Go.ChangeAt Go.RowKit

theorem okB {l : List Fld} (h : ∀ f ∈ l, f.1.length ≤ 1048576 ∧ f.2.length ≤ 1048576) : FlenOK l := fun f hf => by have := h f hf; omega
theorem merge_le (a b : List Fld) : (mergeL a b).length ≤ a.length + b.length := by
  unfold mergeL
  split
  · omega
  · unfold outL
    have h1 := withoutF_le a ((newsL b).map Prod.fst)
    have h2 : (newsL b).length ≤ b.length := withoutF_le b hopP
    rw [List.length_append]
    omega
set_option maxHeartbeats 1000000 in
theorem walk (w : World) (A : Option Addr) (n c : Nat) (l : List Fld) (hA : RdF w A n l) (hn : n ≤ 1048576) (hf : ∀ f ∈ l, f.1.length ≤ 1048576 ∧ f.2.length ≤ 1048576)
    (B : Option Addr) (m d : Nat) (u : List Fld) (hB : RdF w B m u) (hm : m ≤ 1048576) (hg : ∀ f ∈ u, f.1.length ≤ 1048576 ∧ f.2.length ≤ 1048576) :
    Calls Try.prog 4 #[.slice A n c, .slice B m d] w fun e w' => e = .returned (.bool true) ∧ Below w.heap.size w w' := by
  have fA := okB hf
  have fB := okB hg
  clear hf hg
  have HML : Hid ((mergeL l u).length ≤ n + m) := Lib.hid (by have := merge_le l u; have := hA.1; have := hB.1; omega)
  go_enter Try.func4, Try.ntmps4
  go_wp2_with fail
  refine (alive18 w).mono ?_
  rintro e w1 ⟨rfl, hb1⟩
  go_wp2_with fail
  refine (copyFields_any A n c l _ (hA.step hb1) (by omega)).mono ?_
  rintro e w2 ⟨A2, n2, c2, rfl, hr2, hb2⟩
  have b2 := bnext hb1 hb2 hb1.size
  have HN2 : Hid (n2 = n) := Lib.hid (by have := hr2.1; have := hA.1; omega)
  have hn2 : n2 ≤ 1048576 := by have := HN2.out; omega
  go_wp2_with fail
  refine (copyFields_any B m d u _ (hB.step b2) (by omega)).mono ?_
  rintro e w3 ⟨A3, n3, c3, rfl, hr3, hb3⟩
  have b3 := bnext b2 hb3 b2.size
  have HN3 : Hid (n3 = m) := Lib.hid (by have := hr3.1; have := hB.1; omega)
  have hn3 : n3 ≤ 1048576 := by have := HN3.out; omega
  go_wp2_with fail
  refine (merge_p A2 A3 n2 c2 n3 c3 l u _ (hr2.step hb3) hr3 (by omega) fA fB).mono ?_
  rintro e w4 ⟨A4, n4, c4, rfl, ho4, hb4⟩
  have b4 := bnext b3 hb4 b3.size
  have hn4 : n4 ≤ 140737488355328 := by have := ho4.rd.1; have := HML.out; omega
  go_wp2_with fail
  refine (merge_r A B n c m d l u _ (hA.step b4) (hB.step b4) (by omega) fA fB).mono ?_
  rintro e w5 ⟨A5, n5, c5, rfl, ho5, hb5⟩
  have b5 := bnext b4 hb5 b4.size
  have hn5 : n5 ≤ 140737488355328 := by have := ho5.rd.1; have := HML.out; omega
  go_wp2_with fail
  refine (sameFields_any A4 A5 n4 n5 c4 c5 _ _ _ (ho4.rd.step hb5) ho5.rd hn4 hn5).mono ?_
  rintro e w6 ⟨rfl, hb6⟩
  have b6 := bnext b5 hb6 b5.size
  have E1 : (mergeL l u == mergeL l u) = true := by simp
  rw [E1]
  clear E1
  go_wp2_with fail
  refine (sameFields_any A2 A n2 n c2 c l l _ ((((hr2.step hb3).step hb4).step hb5).step hb6) (hA.step b6) (by omega) (by omega)).mono ?_
  rintro e w7 ⟨rfl, hb7⟩
  have b7 := bnext b6 hb7 b6.size
  have E2 : (l == l) = true := by simp
  rw [E2]
  clear E2
  go_wp2_with fail
  refine (sameFields_any A3 B n3 m c3 d u u _ ((((hr3.step hb4).step hb5).step hb6).step hb7) (hB.step b7) (by omega) (by omega)).mono ?_
  rintro e w8 ⟨rfl, hb8⟩
  have b8 := bnext b7 hb8 b7.size
  go_wp2
  go_ret
  exact ⟨ret_bool (by simp), b8⟩

theorem own : ownKnob Try.prog.godebug = none := by kernel_rfl
theorem contract (H : Type) (enc : TypeId × Value → H) (W : World) (base : Nat) (args : Array Value) (ds gs : List (DataW H)) (before : List MemPlace)
    (hval : ∀ (j : Nat) t v, Try.f4.params[j]? = some t → args[j]? = some v → Value.okWide Try.prog W .any base t v)
    (hW : DataW.Whole enc Try.prog Try.f4.params.toList Rows.validMergesSpec.vars false W args.toList ds gs before) (hk : Rows.uptoSmall H (ds ++ gs) = true) :
    Calls Try.prog 4 args W fun e W' => ∃ v, e = .returned v ∧ Rows.validMergesSpec.post enc Try.prog Try.f4 false true false false W args v W' := by
  have hW' := hW
  obtain ⟨p, q, hA0, hV, rfl, hfz, hnd⟩ := hW
  have hA : DataW.TrodAll enc Try.prog W 0 (fun _ => true) true Try.f4.params.toList args.toList ds p := hA0
  rw [Try.params4] at hA hval
  obtain ⟨v0, vs0, d0, ds0, p0, q0, hargs, rfl, rfl, h0, r0⟩ := trodAll_cons hA
  obtain ⟨v1, vs1, d1, ds1, p1, q1, rfl, rfl, rfl, h1, r1⟩ := trodAll_cons r0
  obtain ⟨rfl, rfl, rfl⟩ := trodAll_nil r1
  obtain rfl : args = #[v0, v1] := by cases args; simp_all
  obtain ⟨rfl, rfl⟩ := trodVars_none hV
  have hall := bulks.bound hk
  simp only [List.append_nil, Rows.uptoBulkAll] at hall
  have hb0 : Rows.uptoBulk d0 ≤ 1048576 := by omega
  have hb1 : Rows.uptoBulk d1 ≤ 1048576 := by omega
  clear hall
  obtain ⟨A0, n0, c0, l0, rfl, hr0, hn0, hf0⟩ := opF (hval 0 27 v0 rfl rfl) h0 hb0
  obtain ⟨A1, n1, c1, l1, rfl, hr1, hn1, hf1⟩ := opF (hval 1 27 v1 rfl rfl) h1 hb1
  clear hA0
  refine (walk W A0 n0 c0 l0 hr0 hn0 hf0 A1 n1 c1 l1 hr1 hn1 hf1).mono fun e W' ⟨he, hg⟩ => ?_
  subst he
  exact ⟨_, rfl, post_of_below (pa := p0 ++ (p1 ++ ([]))) (pv := []) hW' (fun _ _ _ => (trodAll_cons_mk (shut_bool Try.underlying4 _) trodAll_mk0)) (fun sp hsp => (trodAll_cons_mk (arg_stays laidOut (by kernel_rfl) (of_decide_eq_true (by kernel_rfl)) h0 hg (fun x hx => hW'.lt x (by simp [hx])) sp (fun x hx => hsp x (by simp [hx]))) (trodAll_cons_mk (arg_stays laidOut (by kernel_rfl) (of_decide_eq_true (by kernel_rfl)) h1 hg (fun x hx => hW'.lt x (by simp [hx])) sp (fun x hx => hsp x (by simp [hx]))) trodAll_mk0))) (fun _ _ => rfl) rfl
    hg (ok_one (by kernel_rfl) rfl (okWide_bool_mk Try.underlying4 _))⟩

set_option maxRecDepth 100000 in
theorem lifted (os : Os) (started : os.Started) (H : Type) (enc : TypeId × Value → H) (F : Stop.Interp) :
    ReturnsInHanded {} Try.checked os 4 .any ((Rows.OpenSpec.upto Rows.validMergesSpec).pre6 enc Try.prog Try.f4 Rows.validMergesUptoRow.domain false) (((Rows.OpenSpec.upto Rows.validMergesSpec).at F).post enc Try.prog Try.f4 false true false false) := by
  refine returnsInHanded_of_cond (C := Try.checked) (s := Rows.OpenSpec.upto Rows.validMergesSpec) (k := Rows.uptoSmall) rfl own started (by kernel_rfl) Try.func4
    (OpenSpec.witness (enc := enc) (C := Try.checked) (s := Rows.OpenSpec.upto Rows.validMergesSpec) (k := Rows.uptoSmall) rfl false ⟨#[], #[.slice none 0 0, .slice none 0 0], []⟩ 8 (by kernel_rfl) (by kernel_rfl) (by kernel_rfl)
      (x := ([.nil, .nil], [], [])) (by kernel_rfl) rfl (by kernel_rfl)) ?_
  intro W base args ds gs before hval hW _ hk _
  exact contract H enc W base args ds gs before hval hW hk

theorem over : Rows.validMergesUptoRow.holds Try.pinned (Rows.OpenSpec.upto Rows.validMergesSpec) :=
  OpenClaim.holds_of_cond 4 Try.f4 rfl rfl rfl rfl rfl rfl rfl ⟨rfl, rfl, rfl, rfl, rfl⟩ rfl rfl rfl rfl rfl (by kernel_rfl) Try.func4 (by kernel_rfl)
    (of_decide_eq_true (by kernel_rfl)) (by unfold Func.isWrapper; first | (rw [if_pos (by decide +kernel)]; kernel_rfl) | (rw [if_neg (by decide +kernel)]; exact ⟨rfl, rfl⟩))
    (fun os started H enc _ F => lifted os started H enc F)

theorem proved : Rows.ValidMergesUptoSaid :=
  over
end Go.Proofs.Ytbigcdmkfcmegaa.validMerges
