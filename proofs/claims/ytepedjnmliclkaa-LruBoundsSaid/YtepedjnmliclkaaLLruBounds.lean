/- LruBounds: for every input the law answers true and leaves its arguments as they were. No conditions. -/
import Derived.Test.YtepedjnmliclkaaRows
import Derived.Test.YtepedjnmliclkaaLruM
import Derived.StillTailTactics
import Derived.Test.YtepedjnmliclkaaOpenL
import Derived.WalkKit
import Derived.ProofKit
import Derived.OpenShut
import Derived.JoinedCond
set_option linter.unusedVariables false
set_option linter.unusedSimpArgs false
set_option maxRecDepth 100000
namespace Go.Proofs.Ytepedjnmliclkaa.lruBounds
open Go.ChangeShapes Go.WideShapes Go.ChangeAt Go.RowKit

def stepU (R : Int) (xs : List Cn) (o : Op4) : List Cn := if o.w = 2 then (match findK o.k xs with | some x => x :: woL o.k xs | none => xs) else (lputL R o.k o.a o.b xs).1
def fstU (R : Int) (xs : List Cn) (o : Op4) : Bool := if o.w = 2 then (findK o.k xs).isSome else (lputL R o.k o.a o.b xs).2.2
def bndU (R : Int) (sc : List Op4) : List Cn := sc.foldl (stepU R) []
theorem bnd_snoc {R : Int} {sc : List Op4} {k : Nat} {x : Op4} (h : sc[k]? = some x) : bndU R (sc.take (k + 1)) = stepU R (bndU R (sc.take k)) x := by
  unfold bndU
  rw [take_snoc? h, List.foldl_append]; rfl
theorem stepU_ok {R : Int} {xs : List Cn} {o : Op4} (h : ItemsOK R xs) (hk : o.k.length ≤ maxLen) : ItemsOK R (stepU R xs o) ∧ (stepU R xs o).length ≤ xs.length + 1 := by
  unfold stepU
  split
  · cases hf : findK o.k xs with
    | none => exact ⟨h, by simp⟩
    | some x => exact ⟨(items_get h hf).1, by have := (items_get h hf).2; simp at this ⊢; omega⟩
  · exact ⟨h.put hk, (lputL_len ..).1⟩
theorem bnd_ok {R : Int} (h0 : 0 ≤ R) (h1 : R ≤ 1073741824) (sc : List Op4) (hk : ∀ x ∈ sc, x.k.length ≤ maxLen) (k : Nat) : ItemsOK R (bndU R (sc.take k)) ∧ (bndU R (sc.take k)).length ≤ k := by
  induction k with
  | zero => exact ⟨items_nil h0 h1, by simp [bndU]⟩
  | succ k ih =>
    by_cases hl : k < sc.length
    · rw [bnd_snoc (List.getElem?_eq_getElem hl)]
      have := stepU_ok ih.1 (hk sc[k] (List.getElem_mem hl))
      exact ⟨this.1, by omega⟩
    · rw [List.take_of_length_le (by omega)] at ih ⊢
      exact ⟨ih.1, by omega⟩
theorem fst_ok {R : Int} {xs : List Cn} {o : Op4} (h : fstU R xs o = true) : ∃ t, (stepU R xs o).map (·.o) = o.k :: t := by
  unfold fstU at h
  unfold stepU
  split
  · rename_i hc
    rw [if_pos hc] at h
    obtain ⟨x, hx⟩ := Option.isSome_iff_exists.1 h
    rw [hx]
    have := List.find?_some hx
    exact ⟨_, by simp at this; simp [this]; rfl⟩
  · rename_i hc
    rw [if_neg hc] at h
    unfold lputL at h ⊢
    split
    · rename_i h2
      rw [if_pos h2] at h; simp at h
    · exact ⟨_, rfl⟩
set_option maxRecDepth 100000 in
set_option maxHeartbeats 2000000 in
theorem walk (w : World) (room : Int) (hm1 : -9223372036854775808 ≤ room) (hm2 : room ≤ 9223372036854775807)
    (A : Option Addr) (n c : Nat) (l : List Op4) (hA : RdO w A n l) (hnc : n ≤ c) (hcm : c ≤ 9223372036854775807) (hkl : ∀ x ∈ l, x.k.length ≤ maxLen) :
    Calls Try.prog 5 #[.int .i64 room, .slice A n c] w fun e w' => e = .returned (.bool true) ∧ Below w.heap.size w w' := by
  have hR0 : 0 ≤ roomL room := by unfold roomL; split <;> (try split) <;> omega
  have hR1 : roomL room ≤ 1073741824 := by unfold roomL; split <;> (try split) <;> omega
  have HRR : Hid (∀ u : Int, 0 < u → u ≤ roomL room → u ≤ room) := Lib.hid fun u h1 h2 => by
    unfold roomL at h2; split at h2 <;> (try split at h2) <;> omega
  go_enter Try.func5, Try.ntmps5
  go_wp2_with fail
  refine (alive14_any w).mono ?_
  rintro e w1 ⟨rfl, hb1⟩
  have hl1 := hA.step hb1
  go_wp2_with fail
  refine (lruNew_any room w1).mono ?_
  rintro e w2 ⟨tb, mb, rfl, hp2, hb2⟩
  have hl2 := hl1.step hb2
  have hbA := bnext hb1 hb2 hb1.size
  go_wp2_with fail
  refine (cutL_any A n c l w2 hl2 hnc hcm).mono ?_
  rintro e w3 ⟨m, rfl, hm3, hmc, hl3, rfl⟩
  have hsc := cut_back hA hl3
  have HKL : Hid (∀ x ∈ l.take 300, x.k.length ≤ maxLen) := Lib.hid fun x hx => hkl x (List.mem_of_mem_take hx)
  generalize l.take 300 = sc at *
  have hlen := hsc.1
  clear hl1 hl2 hA hl3 hkl
  generalize roomL room = R at *
  go_wp2
  go_loopg [6] m (fun r t wr => ∃ k : Nat, k ≤ m ∧ r + k = m ∧ t = .int .i64 k ∧ LruX wr w1.heap.size tb R mb k (bndU R (sc.take k)) ∧ Below w1.heap.size w1 wr)
  case atStart => exact ⟨0, by omega, by omega, rfl, hp2, hb2⟩
  case round =>
    clear hp2 hb2 hbA
    obtain ⟨k, hk, hr, rfl, hpx, hbr⟩ := hrel
    obtain ⟨wo, rfl⟩ : ∃ wo, wo = wr := ⟨_, rfl⟩
    have hbw := bnext hb1 hbr hb1.size
    have hsr := hsc.step hbw
    by_cases hlt : k < m
    · obtain ⟨g, o, x, rfl, hg, HX, c0, c1, c2, c3⟩ := hsr.at_ hlt
      have k0 : (0 : Int) ≤ (k : Int) := by omega
      have k1 : (k : Int) < (m : Int) := by omega
      have hko := bnd_ok hR0 hR1 sc HKL.out k
      have hxk := HKL.out x (mem_of_get? HX.out)
      have HS := Lib.hid (bnd_snoc (R := R) HX.out)
      generalize bndU R (sc.take k) = xs at *
      have HY := Lib.hid (stepU_ok (o := x) hko.1 hxk)
      have HF := Lib.hid (fun h => fst_ok (R := R) (xs := xs) (o := x) h)
      have HSB : Hid (stepU R xs x = if x.w = 2 then (match findK x.k xs with | some y => y :: woL x.k xs | none => xs) else (lputL R x.k x.a x.b xs).1) := Lib.hid rfl
      have HFB : Hid (fstU R xs x = if x.w = 2 then (findK x.k xs).isSome else (lputL R x.k x.a x.b xs).2.2) := Lib.hid rfl
      generalize stepU R xs x = ys at *
      generalize fstU R xs x = fb at *
      have hal := alloc_below wo (.cells #[.int .i64 x.w, .string (bs x.k), .int .i64 x.a, .int .i64 x.b] 32)
      have hro := heap_alloc_new wo (.cells #[.int .i64 x.w, .string (bs x.k), .int .i64 x.a, .int .i64 x.b] 32)
      have hpx2 := hpx.step hal
      have hB2 := hbr.trans (hal.mono hbr.size)
      have hszo := hbr.size
      have hO0 : (wo.alloc (.cells #[.int .i64 x.w, .string (bs x.k), .int .i64 x.a, .int .i64 x.b] 32)).cell? ⟨wo.heap.size, 0, none⟩ = some (.int .i64 x.w) := by rw [cell_of_row _ _ _ _ _ _ hro]; rfl
      have hO1 : (wo.alloc (.cells #[.int .i64 x.w, .string (bs x.k), .int .i64 x.a, .int .i64 x.b] 32)).cell? ⟨wo.heap.size, 1, none⟩ = some (.string (bs x.k)) := by rw [cell_of_row _ _ _ _ _ _ hro]; rfl
      have hO2 : (wo.alloc (.cells #[.int .i64 x.w, .string (bs x.k), .int .i64 x.a, .int .i64 x.b] 32)).cell? ⟨wo.heap.size, 2, none⟩ = some (.int .i64 x.a) := by rw [cell_of_row _ _ _ _ _ _ hro]; rfl
      have hO3 : (wo.alloc (.cells #[.int .i64 x.w, .string (bs x.k), .int .i64 x.a, .int .i64 x.b] 32)).cell? ⟨wo.heap.size, 3, none⟩ = some (.int .i64 x.b) := by rw [cell_of_row _ _ _ _ _ _ hro]; rfl
      clear hal hpx hbr hbw hsr
      go_upto_if 31 with fail
      have hrw : ∀ wz, (wz = (wo.alloc (.cells #[.int .i64 x.w, .string (bs x.k), .int .i64 x.a, .int .i64 x.b] 32))) → wz.heap[wo.heap.size]? = some (.cells #[.int .i64 x.w, .string (bs x.k), .int .i64 x.a, .int .i64 x.b] 32 (0, 0)) := fun wz h => by rw [h]; exact hro
      have hrow := hrw _ rfl
      clear hrw hro
      generalize wo.alloc (.cells #[.int .i64 x.w, .string (bs x.k), .int .i64 x.a, .int .i64 x.b] 32) = wx at *
      have HPX2 := Lib.hid hpx2
      have HB2 := Lib.hid hB2
      have HROW := Lib.hid hrow
      clear hpx2 hB2 hrow
      go_cut [8] (fun v wc => v = .bool fb ∧ LruX wc w1.heap.size tb R mb (k + 1) ys ∧ Below w1.heap.size w1 wc ∧ wc.cell? ⟨wo.heap.size, 1, none⟩ = some (.string (bs x.k)))
      case first =>
        by_cases hw2 : x.w = 2
        · have hT := lruGet_any w1.heap.size tb mb k R xs x.k wx HPX2.out hko.1 hxk
          rw [if_pos hw2] at HFB HSB
          have hwb : (x.w == 2) = true := by simp [hw2]
          clear hw2
          go_wp2_with fail
          refine hT.mono ?_
          rintro e w4 ⟨rfl, hp4, ht4⟩
          have HB4 := Lib.hid (HB2.out.trans ht4.below)
          have HP4 : Hid (LruX w4 w1.heap.size tb R mb (k + 1) ys) := Lib.hid (by rw [HSB.out]; exact hp4.more (by omega))
          have HC4 : Hid (w4.cell? ⟨wo.heap.size, 1, none⟩ = some (.string (bs x.k))) := Lib.hid (by
            rw [cell_of_row _ _ _ _ _ _ ((ht4.rows _ _ _ _ HROW.out (by decide) (by decide)).trans HROW.out)]; rfl)
          unfold peekV
          cases hfk : findK x.k xs with
          | none =>
            rw [hfk] at HFB
            clear hT hp4 ht4
            go_wp2
            go_meet
            case rel => exact ⟨by rw [HFB.out]; rfl, HP4.out, HB4.out, HC4.out⟩
          | some y =>
            rw [hfk] at HFB
            clear hT hp4 ht4
            go_wp2
            go_meet
            case rel => exact ⟨by rw [HFB.out]; rfl, HP4.out, HB4.out, HC4.out⟩
        · have hP := lruPut_any w1.heap.size tb mb k R xs x.k x.a x.b wx HPX2.out hko.1 hR0 hxk (by omega) (by omega)
          have hwb : (x.w == 2) = false := by simp [hw2]
          rw [if_neg hw2] at HFB HSB
          clear hw2
          go_wp2_with fail
          refine hP.mono ?_
          rintro e w4 ⟨A4, n4, c4, rfl, ho4, hp4, ht4⟩
          have HC4 : Hid (w4.cell? ⟨wo.heap.size, 1, none⟩ = some (.string (bs x.k))) := Lib.hid (by
            rw [cell_of_row _ _ _ _ _ _ ((ht4.rows _ _ _ _ HROW.out (by decide) (by decide)).trans HROW.out)]; rfl)
          go_wp2
          go_meet
          case rel => exact ⟨by rw [HFB.out], by rw [HSB.out]; exact hp4, HB2.out.trans ht4.below, HC4.out⟩
      case rest =>
        obtain ⟨rfl, hp5, hb5, hcx⟩ := hcut
        clear c0 c1 c2 c3 hO0 hO1 hO2 hO3
        obtain ⟨hiy, hyl⟩ := HY.out
        have hyl2 : ys.length ≤ 1000 := by omega
        go_wp2_with fail
        refine (lruKeys_any w1.heap.size tb mb (k + 1) R ys wc hp5 (by omega)).mono ?_
        rintro e w6 ⟨A6, n6, c6, rfl, ho6, hp6, hb6⟩
        have hn6 : n6 = ys.length := by have := ho6.rd.1; simpa using this.symm
        subst hn6
        have hr6 := ho6.rd
        have HB6 := Lib.hid (hb5.trans (hb6.mono hb5.size))
        have HP6 := Lib.hid hp6
        have hcx6 := (hb6.cell (p := ⟨wo.heap.size, 1, none⟩) (World.block_lt_of_cell? _ _ (by rw [hcx]))).trans hcx
        have HPK : Hid (∀ (a : Nat) (u : List UInt8), (ys.map (·.o))[a]? = some u → u.length ≤ maxLen ∧ ∃ i : Int, peekV (findK u ys) = .tuple #[.int .i64 i, .bool true]) := Lib.hid fun a u hu => keys_peek hiy hu
        have HND : Hid (∀ (a : Nat) (u v : List UInt8), 0 < a → (ys.map (·.o))[a]? = some u → (ys.map (·.o))[a - 1]? = some v → u ≠ v) := Lib.hid fun a u v h0 hu hv => keys_ne hiy h0 hu hv
        have hus0 := sumW_nonneg (xs := ys) fun y hy => (hiy.each y hy).2
        have hus1 := hiy.sum
        have hU := fun q => (lruUsed_any w1.heap.size tb mb (k + 1) R ys (w6.drewN q) (hp6.drewN q)).mono fun e w' h => (⟨h.1, h.2.symm⟩ : e = .returned (.int .i64 (sumW ys)) ∧ w' = w6.drewN q)
        have hKY := Lib.hid hiy.keys
        have hRR := HRR.out (sumW ys)
        generalize sumW ys = us at *
        clear hp6 hp5 hb5 hb6 ho6 hcx
        go_upto_region 14 with fail
        go_cut [81] (fun v wx => v = .bool false ∧ ∃ q, wx = w6.drewN q)
        case first =>
          have hd1 : decide (us < 0) = false := by simp; omega
          have hcs : us = 0 ∨ (0 < us ∧ us ≤ room) := by omega
          clear hRR
          cases fb with
          | false =>
            rcases hcs with h0 | ⟨h0, h1⟩
            · have hd2 : decide (0 < us) = false := by simp; omega
              go_wp2_with fail
              go_quiet ((go_at_call 26; exact Calls.quiet_of_same (hU _)))
              go_wp2_with fail
              go_meet
              case rel => exact ⟨rfl, _, rfl⟩
            · have hd3 : decide (room < us) = false := by simp; omega
              go_wp2_with fail
              go_quiet ((go_at_call 26; exact Calls.quiet_of_same (hU _)))
              go_wp2_with fail
              go_meet
              case rel => exact ⟨rfl, _, rfl⟩
          | true =>
            obtain ⟨t, ht⟩ := HF.out rfl
            have hlp : 0 < ys.length := by have h9 := congrArg List.length ht; rw [List.length_map, List.length_cons] at h9; omega
            obtain ⟨g1, o1, u, rfl, hg1, HU1, hc1⟩ := hr6.at_ hlp
            obtain rfl : u = x.k := by have := HU1.out; rw [ht] at this; simpa using this.symm
            have hc1' : w6.cell? ⟨g1, o1, none⟩ = some (.string (bs x.k)) := by simpa using hc1
            have hl0 : ((ys.length : Int) == 0) = false := by rw [beq_eq_false_iff_ne]; omega
            have hl1 : (0 : Int) < (ys.length : Int) := by omega
            clear ht HF hc1
            rcases hcs with h0 | ⟨h0, h1⟩
            · have hd2 : decide (0 < us) = false := by simp; omega
              go_wp2_with fail
              go_quiet ((go_at_call 26; exact Calls.quiet_of_same (hU _)))
              go_wp2_with fail
              go_meet
              case rel => exact ⟨rfl, _, rfl⟩
            · have hd3 : decide (room < us) = false := by simp; omega
              go_wp2_with fail
              go_quiet ((go_at_call 26; exact Calls.quiet_of_same (hU _)))
              go_wp2_with fail
              go_meet
              case rel => exact ⟨rfl, _, rfl⟩
        case rest =>
          obtain ⟨rfl, q, rfl⟩ := hcut
          clear hU hRR hus0 hus1 hcx6
          go_wp2
          go_loopg [10] ys.length (fun r t wr => ∃ a : Nat, a ≤ ys.length ∧ r + a = ys.length ∧ t = .int .i64 (a : Int) ∧ Below w6.heap.size w6 wr)
          case atStart => exact ⟨0, by omega, by omega, rfl, below_drewN (Below.refl _ _) q⟩
          case round =>
            obtain ⟨a, ha, hra, rfl, hba⟩ := hrel
            obtain ⟨wa, rfl⟩ : ∃ wa, wa = wr := ⟨_, rfl⟩
            by_cases hla : a < ys.length
            · obtain ⟨g1, o1, u, rfl, hg1, HU1, hc1⟩ := (hr6.step hba).at_ hla
              have a0 : (0 : Int) ≤ (a : Int) := by omega
              have a1 : (a : Int) < (ys.length : Int) := by omega
              obtain ⟨hul, i, hpk⟩ := HPK.out a u HU1.out
              have hPE := lruPeek_any w1.heap.size tb mb (k + 1) R ys u wa (HP6.out.step hba) hKY.out hul
              rw [hpk] at hPE
              clear hpk
              go_wp2_with fail
              refine hPE.mono ?_
              rintro e w7 ⟨rfl, rfl⟩
              clear hPE
              rcases Nat.eq_zero_or_pos a with rfl | hap
              · go_wp2
                go_quiet (fail)
                go_wp2
                go_roundg (ys.length - 1)
                case measure => omega
                case rel => exact ⟨0 + 1, by omega, by omega, by go_num, below_drewN hba _⟩
              · obtain ⟨g2, o2, v, e2, hg2, HV2, hc2⟩ := (hr6.step hba).at_ (k := a - 1) (by omega)
                cases e2
                have hne : (u == v) = false := beq_eq_false_iff_ne.2 (HND.out a u v hap HU1.out HV2.out)
                have a2 : (0 : Int) < (a : Int) := by omega
                have a3 : (a : Int) - 1 = ((a - 1 : Nat) : Int) := by omega
                go_wp2
                go_quiet (fail)
                go_wp2
                go_roundg (ys.length - (a + 1))
                case measure => omega
                case rel => exact ⟨a + 1, by omega, by omega, by go_num, below_drewN hba _⟩
            · obtain rfl : a = ys.length := by omega
              go_wp2
              go_roundg (m - (k + 1))
              case measure => omega
              case rel => exact ⟨k + 1, by omega, by omega, by go_num, by rw [HS.out]; exact HP6.out.step hba, HB6.out.trans (hba.mono HB6.out.size)⟩
    · go_wp2
      go_ret
      exact ⟨rfl, hbw⟩

theorem own : ownKnob Try.prog.godebug = none := by kernel_rfl
theorem contract (H : Type) (enc : TypeId × Value → H) (W : World) (base : Nat) (args : Array Value) (ds gs : List (DataW H)) (before : List MemPlace)
    (hval : ∀ (j : Nat) t v, Try.f5.params[j]? = some t → args[j]? = some v → Value.okWide Try.prog W .any base t v)
    (hW : DataW.Whole enc Try.prog Try.f5.params.toList Rows.lruBoundsSpec.vars false W args.toList ds gs before) (hsz : (DataW.weightsEach Try.prog (Try.f5.params.toList ++ Rows.lruBoundsSpec.plain.varTypes Try.prog) (ds ++ gs)).all (· ≤ reachBytes) = true) :
    Calls Try.prog 5 args W fun e W' => ∃ v, e = .returned v ∧ Rows.lruBoundsSpec.post enc Try.prog Try.f5 false true false false W args v W' := by
  have hW' := hW
  obtain ⟨p, q, hA0, hV, rfl, hfz, hnd⟩ := hW
  have hA : DataW.TrodAll enc Try.prog W 0 (fun _ => true) true Try.f5.params.toList args.toList ds p := hA0
  rw [Try.params5] at hA hval hsz
  obtain ⟨v0, vs0, d0, ds0, p0, q0, hargs, rfl, rfl, h0, r0⟩ := trodAll_cons hA
  obtain ⟨v1, vs1, d1, ds1, p1, q1, rfl, rfl, rfl, h1, r1⟩ := trodAll_cons r0
  obtain ⟨rfl, rfl, rfl⟩ := trodAll_nil r1
  obtain rfl : args = #[v0, v1] := by cases args; simp_all
  obtain ⟨rfl, rfl⟩ := trodVars_none hV
  obtain ⟨i0, rfl, hi0, hj0⟩ := opI (hval 0 3 v0 rfl rfl) h0
  obtain ⟨A1, n1, c1, l1, rfl, hr1, hc1, hd1, he1⟩ := opOp14k (hval 1 22 v1 rfl rfl) h1
  clear hA0
  refine (walk W i0 hi0 hj0 A1 n1 c1 l1 hr1 hc1 hd1 he1).mono fun e W' ⟨he, hg⟩ => ?_
  subst he
  exact ⟨_, rfl, post_of_below (pa := p0 ++ (p1 ++ ([]))) (pv := []) hW' (fun _ _ _ => (trodAll_cons_mk (shut_bool Try.underlying4 _) trodAll_mk0)) (fun sp hsp => (trodAll_cons_mk (arg_stays laidOut (by kernel_rfl) (of_decide_eq_true (by kernel_rfl)) h0 hg (fun x hx => hW'.lt x (by simp [hx])) sp (fun x hx => hsp x (by simp [hx]))) (trodAll_cons_mk (arg_stays laidOut (by kernel_rfl) (of_decide_eq_true (by kernel_rfl)) h1 hg (fun x hx => hW'.lt x (by simp [hx])) sp (fun x hx => hsp x (by simp [hx]))) trodAll_mk0))) (fun _ _ => rfl) rfl
    hg (ok_one (by kernel_rfl) rfl (okWide_bool_mk Try.underlying4 _))⟩

set_option maxRecDepth 100000 in
theorem lifted (os : Os) (started : os.Started) (H : Type) (enc : TypeId × Value → H) :
    ReturnsInHanded {} Try.checked os 5 .any (Rows.lruBoundsSpec.pre6 enc Try.prog Try.f5 Rows.lruBoundsRow.domain false) (Rows.lruBoundsSpec.post enc Try.prog Try.f5 false true false false) := by
  refine returnsInHanded_of_change_sized (C := Try.checked) own started (by kernel_rfl) Try.func5
    (ChangeSpec.witness6 (enc := enc) (C := Try.checked) false ⟨#[], #[.int .i64 0, .slice none 0 0], []⟩ 8 (by kernel_rfl) (by kernel_rfl) (by kernel_rfl) (by kernel_rfl)) ?_
  intro W base args ds gs before hval hW _ hsz _
  exact contract H enc W base args ds gs before hval hW hsz

theorem over : Rows.lruBoundsRow.holds Try.pinned (OpenSpec.ofChange Rows.lruBoundsSpec) :=
  OpenClaim.holds_of_wide 5 Try.f5 rfl rfl rfl rfl rfl rfl rfl ⟨rfl, rfl, rfl, rfl, rfl⟩ rfl rfl rfl rfl rfl (by kernel_rfl) Try.func5 (by kernel_rfl)
    (of_decide_eq_true (by kernel_rfl)) (by unfold Func.isWrapper; first | (rw [if_pos (by decide +kernel)]; kernel_rfl) | (rw [if_neg (by decide +kernel)]; exact ⟨rfl, rfl⟩))
    (fun os started H enc _ => lifted os started H enc)

theorem proved : Rows.LruBoundsSaid :=
  over
end Go.Proofs.Ytepedjnmliclkaa.lruBounds
