/- PoolOld: for every input the law answers true and leaves its arguments as they were. No conditions. -/
import Derived.Test.YtepedjnmliclkaaRows
import Derived.Test.YtepedjnmliclkaaPoolM
import Derived.StillTailTactics
import Derived.Test.YtepedjnmliclkaaOpenO
import Derived.WalkKit
import Derived.ProofKit
import Derived.OpenShut
import Derived.JoinedCond
set_option linter.unusedVariables false
set_option linter.unusedSimpArgs false
set_option maxRecDepth 100000
namespace Go.Proofs.Ytepedjnmliclkaa.poolOld
open Go.ChangeShapes Go.WideShapes Go.ChangeAt Go.RowKit

theorem old_gone {idle now : Int} (h1 : 1 ≤ idle) (h2 : 0 ≤ now) (h3 : now ≤ 68719476736) {wh : Int} (h : oldB idle now wh = true) : ¬ (now - idle < wh ∧ 0 < wh) := by
  unfold oldB secL at h
  simp at h
  intro ⟨h4, h5⟩
  rw [if_neg (by omega), if_neg (by omega), if_neg (by omega)] at h
  split at h <;> omega
theorem old_left {idle now : Int} (xs : List Cn) : (xs.filter fun x => !oldX idle now x).filter (oldX idle now) = [] := by
  rw [List.filter_filter, List.filter_eq_nil_iff]
  intro a _
  cases oldX idle now a <;> simp
theorem old_left2 {idle now : Int} (xs : List Cn) : (xs.filter fun x => !oldX idle now x).filter (fun x => !oldX idle now x) = xs.filter fun x => !oldX idle now x := by
  rw [List.filter_filter]
  congr 1
  funext x
  simp
theorem old_sum {idle now : Int} (xs : List Cn) : (xs.filter fun x => !oldX idle now x).length + (xs.filter (oldX idle now)).length = xs.length := by
  induction xs with
  | nil => rfl
  | cons x r ih =>
    simp only [List.filter_cons]
    cases oldX idle now x <;> simp <;> omega
set_option maxRecDepth 100000 in
set_option maxHeartbeats 4000000 in
theorem walk (w : World) (idle : Int) (hi1 : -9223372036854775808 ≤ idle) (hi2 : idle ≤ 9223372036854775807) (A : Option Addr) (n c : Nat) (l : List Op4) (hA : RdO w A n l) (hnc : n ≤ c) (hcm : c ≤ 9223372036854775807) (now : Int) (hn1 : -9223372036854775808 ≤ now) (hn2 : now ≤ 9223372036854775807) :
    Calls Try.prog 11 #[.int .i64 idle, .slice A n c, .int .i64 now] w fun e w' => e = .returned (.bool true) ∧ Below w.heap.size w w' := by
  have hM : upL 1048576 = 1048576 := rfl
  have HM := Lib.hid hM
  clear hM
  by_cases hbad : idle < 1 ∨ now < 0 ∨ 68719476736 < now
  · have hcs : idle < 1 ∨ (1 ≤ idle ∧ now < 0) ∨ (1 ≤ idle ∧ 0 ≤ now ∧ 68719476736 < now) := by omega
    clear hbad
    rcases hcs with g1 | ⟨g1, g2⟩ | ⟨g1, g2, g3⟩
    all_goals
      go_enter Try.func11, Try.ntmps11
      go_wp2_with fail
      refine (alive_any w).mono ?_
      rintro e w1 ⟨rfl, hb1⟩
      go_wp2
      go_ret
      exact ⟨rfl, hb1⟩
  have g1 : 1 ≤ idle := by omega
  have g2 : 0 ≤ now := by omega
  have g3 : now ≤ 68719476736 := by omega
  clear hbad
  go_enter Try.func11, Try.ntmps11
  go_wp2_with fail
  refine (alive_any w).mono ?_
  rintro e w1 ⟨rfl, hb1⟩
  have hl1 := hA.step hb1
  go_wp2_with fail
  refine (poolNew_any 1048576 1048576 idle w1).mono ?_
  rintro e w2 ⟨pb, rfl, hp2, hb2⟩
  rw [HM.out, upL_pos (v := idle) (by omega)] at hp2
  have hl2 := hl1.step hb2
  have hbA := bnext hb1 hb2 hb1.size
  go_wp2_with fail
  refine (cutP_any A n c l w2 hl2 hnc hcm).mono ?_
  rintro e w3 ⟨m, rfl, hm3, hmc, hl3, rfl⟩
  have hsc := cut_back hA hl3
  generalize l.take 300 = sc at *
  have hlen := hsc.1
  clear hl1 hl2 hA hl3
  go_wp2
  go_loopw [8] (fun t wr => ∃ k : Nat, k ≤ m ∧ t = .int .i64 k ∧ PoolX wr w1.heap.size pb 1048576 1048576 idle (putsL 1048576 1048576 (sc.take k)) ∧ Below w1.heap.size w1 wr) (fun t _ => m - (intOf t).toNat)
  case atStart => exact ⟨0, by omega, rfl, hp2, hb2⟩
  case round =>
    clear hp2 hb2 hbA
    obtain ⟨k, hk, rfl, hpx, hbr⟩ := hrel
    have hbw := bnext hb1 hbr hb1.size
    have hsr := hsc.step hbw
    by_cases hlt : k < m
    · obtain ⟨g, o, x, rfl, hg, HX, c0, c1, c2, c3⟩ := hsr.at_ hlt
      have k0 : (0 : Int) ≤ (k : Int) := by omega
      have k1 : (k : Int) < (m : Int) := by omega
      have hko := putsL_ok 1048576 1048576 sc k
      have HS := Lib.hid (putsL_snoc (m := 1048576) (e := 1048576) HX.out)
      have hP := fun W hW => put_any w1.heap.size pb 1048576 1048576 idle (putsL 1048576 1048576 (sc.take k)) x.k x.a x.b W hW hko.1 (by omega) (by omega) (by omega)
      have HPX := Lib.hid hpx
      have HB := Lib.hid hbr
      clear hpx hbr hbw hsr hsc hko c0
      go_wp2
      go_still_tail 16, (by kernel_rfl)
      change wpList _ _ _ _ _ wr.drew
      go_wp2_with fail
      refine (hP _ HPX.out.drew).mono ?_
      rintro e w4 ⟨A4, n4, c4, rfl, -, hp4, ht4⟩
      have hbn := below_of_drew HB.out ht4.below
      go_wp2
      go_roundw
      case rel => exact ⟨k + 1, by omega, by go_num, by rw [HS.out]; exact hp4, hbn⟩
      case measure => simp [intOf]; omega
    · obtain rfl : k = m := by omega
      have hko := putsL_ok 1048576 1048576 sc k
      have HL := Lib.hid (putsL_last 1048576 1048576 sc k)
      have HTk : Hid (sc.take k = sc) := Lib.hid (List.take_of_length_le (by omega))
      have HLEN := Lib.hid hko.2
      generalize putsL 1048576 1048576 (sc.take k) = xs at *
      have hxl : xs.length ≤ 300 := by omega
      have HB := Lib.hid hbr
      clear hko hbr hbw hsr
      go_wp2_with fail
      refine (ids_any w1.heap.size pb 1048576 1048576 idle xs wr hpx (by omega)).mono ?_
      rintro e w4 ⟨A4, n4, c4, rfl, ho4, hp4, hb4⟩
      have hn4 := ho4.rd.1
      rw [List.length_map] at hn4
      obtain rfl : n4 = xs.length := hn4.symm
      have hB4 := HB.out.trans (hb4.mono HB.out.size)
      clear ho4 hb4 hpx hn4
      go_wp2_with fail
      refine (expire_any w1.heap.size pb 1048576 1048576 idle xs now w4 hp4 (by omega)).mono ?_
      rintro e w5 ⟨A5, n5, c5, rfl, ho5, hp5, ht5⟩
      have hn5 := ho5.rd.1
      rw [List.length_map] at hn5
      have hsum := old_sum (idle := idle) (now := now) xs
      have hB5 := hB4.trans ht5.below
      clear hp4 ht5 hB4
      have hE2 := expire_any w1.heap.size pb 1048576 1048576 idle (xs.filter fun x => !oldX idle now x) now w5 hp5 (by omega)
      rw [old_left, old_left2] at hE2
      have HW5 : Hid (∀ (i : Nat) (id : Int), ((xs.filter (oldX idle now)).map (·.id))[i]? = some id → ∃ (j : Nat) (o : Op4), sc[j]? = some o ∧ o.a = id ∧ ¬ (now - idle < o.b ∧ 0 < o.b) ∧ ∀ (i : Nat) (y : Op4), j < i → sc[i]? = some y → y.a ≠ id) := Lib.hid fun i id hid => by
        have hm := mem_of_get? hid
        obtain ⟨x, hx, rfl⟩ := List.mem_map.1 hm
        obtain ⟨hx1, hx2⟩ := List.mem_filter.1 hx
        obtain ⟨o, ho, _, hk2⟩ := HL.out x hx1
        rw [HTk.out] at ho
        obtain ⟨j, hj, hja, hjb⟩ := lastOp_at ho
        refine ⟨j, o, hj, hja, ?_, hjb⟩
        rw [hk2]
        exact old_gone g1 g2 g3 hx2
      clear hp5
      generalize (xs.filter (oldX idle now)).map (·.id) = gl at *
      generalize (xs.filter fun x => !oldX idle now x) = lf at *
      have hO5 := ho5
      clear ho5
      go_wp2_with fail
      refine hE2.mono ?_
      rintro e w6 ⟨A6, n6, c6, rfl, ho6, hp6, ht6⟩
      have hn6 : n6 = 0 := by have := ho6.rd.1; simpa using this.symm
      subst hn6
      have hO6 := hO5.turnP ht6
      have hB6 := hB5.trans ht6.below
      clear ho6 hE2 ht6 hO5 hB5
      go_wp2_with fail
      refine (ids_any w1.heap.size pb 1048576 1048576 idle lf w6 hp6 (by omega)).mono ?_
      rintro e w7 ⟨A7, n7, c7, rfl, ho7, hp7, hb7⟩
      have hn7 : n7 = lf.length := by have := ho7.rd.1; simpa using this.symm
      subst hn7
      have hO7 := hO6.step hb7
      have hB7 := hB6.trans (hb7.mono hB6.size)
      have hgl : gl.length = n5 := hO7.rd.1
      have hs1 : ((lf.length : Int) + (n5 : Int) != (xs.length : Int)) = false := by
        have : (lf.length : Int) + (n5 : Int) = (xs.length : Int) := by omega
        simp [this]
      have hR7 := hO7.rd
      have hS7 := hsc.step (bnext hb1 hB7 hb1.size)
      have HB7 := Lib.hid hB7
      have hn53 : n5 ≤ 300 := by omega
      have hlf3 : lf.length ≤ 300 := by omega
      have hkk : k ≤ 300 := by omega
      clear ho7 hp7 hb7 hO6 hO7 hB6 hB7 hp6 hsum hgl hsc
      go_wp2
      go_loopw [11] (fun t wr => ∃ i : Nat, i ≤ n5 ∧ t = .int .i64 (i : Int) ∧ Below w7.heap.size w7 wr) (fun t _ => n5 - (intOf t).toNat)
      case atStart => exact ⟨0, by omega, rfl, Below.refl _ _⟩
      case round =>
        obtain ⟨i, hi, rfl, hbo⟩ := hrel
        obtain ⟨wo, rfl⟩ : ∃ wo, wo = wr := ⟨_, rfl⟩
        by_cases hlt : i < n5
        · obtain ⟨g, o, id, rfl, hg, HX, hcx⟩ := (hR7.step hbo).at_ hlt
          obtain ⟨j, y, hj, hja, hjk, hjb⟩ := HW5.out i id HX.out
          have HJ := Lib.hid hj
          have HJB := Lib.hid hjb
          have HJK := Lib.hid hjk
          have hjm : j < k := by have := (List.getElem?_eq_some_iff.1 hj).1; omega
          have i0 : (0 : Int) ≤ (i : Int) := by omega
          have i1 : (i : Int) < (n5 : Int) := by omega
          have hSo := hS7.step hbo
          clear hj hjb hjk
          go_wp2
          go_loopw [12] (fun t wr => ∃ a : Nat, j ≤ a ∧ a < k ∧ t = .int .i64 (a : Int) ∧ Below wo.heap.size wo wr) (fun t _ => (intOf t).toNat)
          case atStart => exact ⟨k - 1, by omega, by omega, by congr 1; omega, Below.refl _ _⟩
          case round =>
            obtain ⟨a, ha1, ha2, rfl, hba⟩ := hrel
            obtain ⟨g', o', z, rfl, hg', HZ, c0, c1, c2, c3⟩ := (hSo.step hba).at_ ha2
            have hcx2 : wr.cell? ⟨g, o + i, none⟩ = some (.int .i64 id) := (hba.cell (p := ⟨g, o + i, none⟩) hg).trans hcx
            have k0 : (0 : Int) ≤ (a : Int) := by omega
            have k1 : (a : Int) < (k : Int) := by omega
            by_cases hij : a = j
            · subst hij
              obtain rfl : z = y := by have h1 := HZ.out; rw [HJ.out] at h1; exact (Option.some.inj h1).symm
              have e1 : (z.a == id) = true := by simp [hja]
              have hcs : z.b ≤ now - idle ∨ (now - idle < z.b ∧ z.b ≤ 0) := by have := HJK.out; omega
              clear hja hcx hSo
              rcases hcs with e2 | ⟨e2, e3⟩
              all_goals
                go_wp2
                go_quiet (fail)
                go_wp2
                go_roundw
                case rel => exact ⟨i + 1, by omega, by go_num, bnext hbo (below_drewN hba _) hbo.size⟩
                case measure => simp [intOf]; omega
            · have hne := HJB.out a z (by omega) HZ.out
              have e1 : (z.a == id) = false := by simp [hne]
              clear hja hne hcx hSo
              go_wp2
              go_quiet (fail)
              go_wp2
              go_roundw
              case rel => exact ⟨a - 1, by omega, by omega, by congr 1; omega, below_drewN hba _⟩
              case measure => simp [intOf]; omega
        · obtain rfl : i = n5 := by omega
          go_wp2
          go_ret
          exact ⟨rfl, bnext (bnext hb1 HB7.out hb1.size) hbo (bnext hb1 HB7.out hb1.size).size⟩

theorem own : ownKnob Try.prog.godebug = none := by kernel_rfl
theorem contract (H : Type) (enc : TypeId × Value → H) (W : World) (base : Nat) (args : Array Value) (ds gs : List (DataW H)) (before : List MemPlace)
    (hval : ∀ (j : Nat) t v, Try.f11.params[j]? = some t → args[j]? = some v → Value.okWide Try.prog W .any base t v)
    (hW : DataW.Whole enc Try.prog Try.f11.params.toList Rows.poolOldSpec.vars false W args.toList ds gs before) (hsz : (DataW.weightsEach Try.prog (Try.f11.params.toList ++ Rows.poolOldSpec.plain.varTypes Try.prog) (ds ++ gs)).all (· ≤ reachBytes) = true) :
    Calls Try.prog 11 args W fun e W' => ∃ v, e = .returned v ∧ Rows.poolOldSpec.post enc Try.prog Try.f11 false true false false W args v W' := by
  have hW' := hW
  obtain ⟨p, q, hA0, hV, rfl, hfz, hnd⟩ := hW
  have hA : DataW.TrodAll enc Try.prog W 0 (fun _ => true) true Try.f11.params.toList args.toList ds p := hA0
  rw [Try.params11] at hA hval hsz
  obtain ⟨v0, vs0, d0, ds0, p0, q0, hargs, rfl, rfl, h0, r0⟩ := trodAll_cons hA
  obtain ⟨v1, vs1, d1, ds1, p1, q1, rfl, rfl, rfl, h1, r1⟩ := trodAll_cons r0
  obtain ⟨v2, vs2, d2, ds2, p2, q2, rfl, rfl, rfl, h2, r2⟩ := trodAll_cons r1
  obtain ⟨rfl, rfl, rfl⟩ := trodAll_nil r2
  obtain rfl : args = #[v0, v1, v2] := by cases args; simp_all
  obtain ⟨rfl, rfl⟩ := trodVars_none hV
  obtain ⟨i0, rfl, hi0, hj0⟩ := opI (hval 0 3 v0 rfl rfl) h0
  obtain ⟨A1, n1, c1, l1, rfl, hr1, hc1, hd1⟩ := opOp23 (hval 1 64 v1 rfl rfl) h1
  obtain ⟨i2, rfl, hi2, hj2⟩ := opI (hval 2 3 v2 rfl rfl) h2
  clear hA0
  refine (walk W i0 hi0 hj0 A1 n1 c1 l1 hr1 hc1 hd1 i2 hi2 hj2).mono fun e W' ⟨he, hg⟩ => ?_
  subst he
  exact ⟨_, rfl, post_of_below (pa := p0 ++ (p1 ++ (p2 ++ ([])))) (pv := []) hW' (fun _ _ _ => (trodAll_cons_mk (shut_bool Try.underlying4 _) trodAll_mk0)) (fun sp hsp => (trodAll_cons_mk (arg_stays laidOut (by kernel_rfl) (of_decide_eq_true (by kernel_rfl)) h0 hg (fun x hx => hW'.lt x (by simp [hx])) sp (fun x hx => hsp x (by simp [hx]))) (trodAll_cons_mk (arg_stays laidOut (by kernel_rfl) (of_decide_eq_true (by kernel_rfl)) h1 hg (fun x hx => hW'.lt x (by simp [hx])) sp (fun x hx => hsp x (by simp [hx]))) (trodAll_cons_mk (arg_stays laidOut (by kernel_rfl) (of_decide_eq_true (by kernel_rfl)) h2 hg (fun x hx => hW'.lt x (by simp [hx])) sp (fun x hx => hsp x (by simp [hx]))) trodAll_mk0)))) (fun _ _ => rfl) rfl
    hg (ok_one (by kernel_rfl) rfl (okWide_bool_mk Try.underlying4 _))⟩

set_option maxRecDepth 100000 in
theorem lifted (os : Os) (started : os.Started) (H : Type) (enc : TypeId × Value → H) :
    ReturnsInHanded {} Try.checked os 11 .any (Rows.poolOldSpec.pre6 enc Try.prog Try.f11 Rows.poolOldRow.domain false) (Rows.poolOldSpec.post enc Try.prog Try.f11 false true false false) := by
  refine returnsInHanded_of_change_sized (C := Try.checked) own started (by kernel_rfl) Try.func11
    (ChangeSpec.witness6 (enc := enc) (C := Try.checked) false ⟨#[], #[.int .i64 0, .slice none 0 0, .int .i64 0], []⟩ 8 (by kernel_rfl) (by kernel_rfl) (by kernel_rfl) (by kernel_rfl)) ?_
  intro W base args ds gs before hval hW _ hsz _
  exact contract H enc W base args ds gs before hval hW hsz

theorem over : Rows.poolOldRow.holds Try.pinned (OpenSpec.ofChange Rows.poolOldSpec) :=
  OpenClaim.holds_of_wide 11 Try.f11 rfl rfl rfl rfl rfl rfl rfl ⟨rfl, rfl, rfl, rfl, rfl⟩ rfl rfl rfl rfl rfl (by kernel_rfl) Try.func11 (by kernel_rfl)
    (of_decide_eq_true (by kernel_rfl)) (by unfold Func.isWrapper; first | (rw [if_pos (by decide +kernel)]; kernel_rfl) | (rw [if_neg (by decide +kernel)]; exact ⟨rfl, rfl⟩))
    (fun os started H enc _ => lifted os started H enc)

theorem proved : Rows.PoolOldSaid :=
  over
end Go.Proofs.Ytepedjnmliclkaa.poolOld
