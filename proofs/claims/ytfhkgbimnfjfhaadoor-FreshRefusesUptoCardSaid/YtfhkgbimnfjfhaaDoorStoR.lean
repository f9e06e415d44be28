import Derived.Test.YtfhkgbimnfjfhaaDoorParR
import Derived.Test.YtfhkgbimnfjfhaaDoorSto0
/- The reference's Storable. Conditions: at most 2^20 fields, texts of at most 2^20 bytes. -/
set_option linter.unusedVariables false
set_option linter.unusedSimpArgs false
namespace Go.Proofs.YtfhkgbimnfjfhaaDoor
open Go.RowKit

set_option maxRecDepth 100000
theorem keepL_any (st : Int) (ex : Bool) : Ctl.keepL st ex = (([200, 203, 300, 301, 404, 405, 410, 414, 501] : List Int).any (· == st) || (([302, 307] : List Int).any (· == st) && ex)) := by
  unfold Ctl.keepL Ctl.oneL Ctl.twoL Ctl.negL
  rw [Bool.eq_iff_iff]
  simp only [List.any_cons, List.any_nil, Bool.or_false, Bool.or_eq_true, Bool.and_eq_true, beq_iff_eq]
  constructor
  · rintro ((h | h | h | h) | ⟨h | h, h2⟩ | h | h | h | h | h) <;> simp [h] <;> simp_all
  · rintro ((h | h | h | h | h | h | h | h | h) | ⟨h | h, h2⟩) <;> simp [← h] <;> simp_all
set_option maxHeartbeats 2000000 in
theorem storableR_any (m t : List UInt8) (minor : Int) (A : Option Addr) (n c : Nat) (l : List Fld) (st : Int) (rs : List UInt8) (minor' : Int) (A' : Option Addr) (n' c' : Nat) (l' : List Fld) (w : World)
    (hl : RdF w A n l) (hn : n ≤ 1048576) (hls : FlenS l) (hl' : RdF w A' n' l') (hn' : n' ≤ 1048576) (hls' : FlenS l') (hst : -9223372036854775808 ≤ st ∧ st ≤ 9223372036854775807) :
    Calls Tryd.prog 8 #[reqV m t minor A n c, respV st rs minor' A' n' c'] w fun e w' => e = .returned (.bool (Ctl.storL m l st l')) ∧ Below w.heap.size w w' := by
  unfold reqV respV
  have hal1 := alloc_below w (.cells #[.string (bs m), .string (bs t), .int .i64 minor, .slice A n c] 24)
  have hr1 := heap_alloc_new w (.cells #[.string (bs m), .string (bs t), .int .i64 minor, .slice A n c] 24)
  have hal2 := alloc_below (w.alloc (.cells #[.string (bs m), .string (bs t), .int .i64 minor, .slice A n c] 24)) (.cells #[.int .i64 st, .string (bs rs), .int .i64 minor', .slice A' n' c'] 26)
  have hb0 := bnext hal1 hal2 hal1.size
  have hr2 := heap_alloc_new (w.alloc (.cells #[.string (bs m), .string (bs t), .int .i64 minor, .slice A n c] 24)) (.cells #[.int .i64 st, .string (bs rs), .int .i64 minor', .slice A' n' c'] 26)
  rw [show (w.alloc (.cells #[.string (bs m), .string (bs t), .int .i64 minor, .slice A n c] 24)).heap.size = w.heap.size + 1 by simp] at hr2
  replace hr1 := row_keep hr1 hal2
  have hg2u : w.heap.size < ((w.alloc (.cells #[.string (bs m), .string (bs t), .int .i64 minor, .slice A n c] 24)).alloc (.cells #[.int .i64 st, .string (bs rs), .int .i64 minor', .slice A' n' c'] 26)).heap.size := by simp; omega
  have hg3 : w.heap.size + 1 < ((w.alloc (.cells #[.string (bs m), .string (bs t), .int .i64 minor, .slice A n c] 24)).alloc (.cells #[.int .i64 st, .string (bs rs), .int .i64 minor', .slice A' n' c'] 26)).heap.size := by simp
  clear hal1 hal2
  have HV : Hid (Ctl.storL m l st l' = ((m == Ctl.getN) && (!(Ctl.ctlL l).noStore && (!(Ctl.ctlL l').noStore && (!(Ctl.ctlL l').priv && (Ctl.keepL st (Ctl.explL (Ctl.ctlL l') l') && (!(Ctl.toldL l Ctl.authN && !((Ctl.ctlL l').pub || ((Ctl.ctlL l').must || decide (0 ≤ (Ctl.ctlL l').sMaxAge)))) && (!(Ctl.toldL l Ctl.rangeN && (st.tdiv 100 == 2)) && !hasL l' Ctl.varyN Ctl.starN)))))))) := Lib.hid (by unfold Ctl.storL; ac_rfl)
  generalize Ctl.storL m l st l' = R at *
  go_enter Tryd.func8, Tryd.ntmps8
  go_upto_region 1 with fail
  generalize (w.alloc (.cells #[.string (bs m), .string (bs t), .int .i64 minor, .slice A n c] 24)).alloc (.cells #[.int .i64 st, .string (bs rs), .int .i64 minor', .slice A' n' c'] 26) = w2 at *
  obtain ⟨a0, a1, a2, a3, -⟩ := row_facts4 hr1
  obtain ⟨b0, b1, b2, b3, -⟩ := row_facts4 hr2
  have hl2 := hl.step hb0
  have hl2' := hl'.step hb0
  clear hl hl' hg2u hg3
  have hC1 := parseR_any A n c l w2 hl2 hn hls
  generalize hcc : Ctl.ctlL l = cc at *
  unfold ctV at hC1
  go_wp2_with fail
  refine hC1.mono ?_
  rintro e w3 ⟨rfl, hb3⟩
  go_upto_region 2 with fail
  clear hC1 a0 a1 a2 a3 b0 b1 b2 b3
  replace hr1 := row_keep hr1 hb3
  replace hr2 := row_keep hr2 hb3
  replace hl2 := hl2.step hb3
  replace hl2' := hl2'.step hb3
  have hb := bnext hb0 hb3 hb0.size
  clear hb0 hb3
  have hal := alloc_below w3 (.cells #[.bool cc.noStore, .bool cc.noCache, .bool cc.priv, .bool cc.pub, .bool cc.must, .bool cc.only, .int .i64 cc.maxAge, .int .i64 cc.sMaxAge, .int .i64 cc.minFresh, .int .i64 cc.maxStale] 33)
  have hA3 := heap_alloc_new w3 (.cells #[.bool cc.noStore, .bool cc.noCache, .bool cc.priv, .bool cc.pub, .bool cc.must, .bool cc.only, .int .i64 cc.maxAge, .int .i64 cc.sMaxAge, .int .i64 cc.minFresh, .int .i64 cc.maxStale] 33)
  generalize w3.alloc (.cells #[.bool cc.noStore, .bool cc.noCache, .bool cc.priv, .bool cc.pub, .bool cc.must, .bool cc.only, .int .i64 cc.maxAge, .int .i64 cc.sMaxAge, .int .i64 cc.minFresh, .int .i64 cc.maxStale] 33) = w4 at *
  replace hr1 := row_keep hr1 hal
  replace hr2 := row_keep hr2 hal
  replace hl2 := hl2.step hal
  replace hl2' := hl2'.step hal
  replace hb := bnext hb hal hb.size
  clear hal
  generalize w3.heap.size = gbA at *
  obtain ⟨b0, b1, b2, b3, -⟩ := row_facts4 hr2
  have hC2 := parseR_any A' n' c' l' w4 hl2' hn' hls'
  generalize hdd : Ctl.ctlL l' = dd at *
  unfold ctV at hC2
  go_wp2_with fail
  refine hC2.mono ?_
  rintro e w5 ⟨rfl, hb5⟩
  go_upto_region 3 with fail
  clear hC2 b0 b1 b2 b3
  replace hr1 := row_keep hr1 hb5
  replace hr2 := row_keep hr2 hb5
  replace hA3 := row_keep hA3 hb5
  replace hl2 := hl2.step hb5
  replace hl2' := hl2'.step hb5
  replace hb := bnext hb hb5 hb.size
  clear hb5
  have hal := alloc_below w5 (.cells #[.bool dd.noStore, .bool dd.noCache, .bool dd.priv, .bool dd.pub, .bool dd.must, .bool dd.only, .int .i64 dd.maxAge, .int .i64 dd.sMaxAge, .int .i64 dd.minFresh, .int .i64 dd.maxStale] 33)
  have hB3 := heap_alloc_new w5 (.cells #[.bool dd.noStore, .bool dd.noCache, .bool dd.priv, .bool dd.pub, .bool dd.must, .bool dd.only, .int .i64 dd.maxAge, .int .i64 dd.sMaxAge, .int .i64 dd.minFresh, .int .i64 dd.maxStale] 33)
  generalize w5.alloc (.cells #[.bool dd.noStore, .bool dd.noCache, .bool dd.priv, .bool dd.pub, .bool dd.must, .bool dd.only, .int .i64 dd.maxAge, .int .i64 dd.sMaxAge, .int .i64 dd.minFresh, .int .i64 dd.maxStale] 33) = W at *
  replace hr1 := row_keep hr1 hal
  replace hr2 := row_keep hr2 hal
  replace hA3 := row_keep hA3 hal
  replace hl2 := hl2.step hal
  replace hl2' := hl2'.step hal
  replace hb := bnext hb hal hb.size
  clear hal
  generalize w5.heap.size = gbB at *
  obtain ⟨a0, a1, a2, a3, -⟩ := row_facts4 hr1
  obtain ⟨b0, b1, b2, b3, -⟩ := row_facts4 hr2
  obtain ⟨x0, x1, x2, x3, x4, x5, x6, x7, x8, x9, -⟩ := row_facts10 hA3
  obtain ⟨y0, y1, y2, y3, y4, y5, y6, y7, y8, y9, -⟩ := row_facts10 hB3
  have HX : Hid (Ctl.explL dd l' = (decide (0 ≤ dd.sMaxAge) || (decide (0 ≤ dd.maxAge) || Ctl.toldL l' Ctl.expN))) := Lib.hid rfl
  generalize Ctl.explL dd l' = ex at *
  clear hcc hdd
  go_cut [7] (fun v wx => v = .bool ex ∧ Below W.heap.size W wx)
  case first =>
    by_cases h1 : 0 ≤ dd.sMaxAge
    · have HE : Hid (ex = true) := Lib.hid (by rw [HX.out]; simp [h1])
      go_wp2
      go_meet
      case rel => exact ⟨by rw [HE.out], Below.refl _ _⟩
    · by_cases h2 : 0 ≤ dd.maxAge
      · have HE : Hid (ex = true) := Lib.hid (by rw [HX.out]; simp [h2])
        go_wp2
        go_meet
        case rel => exact ⟨by rw [HE.out], Below.refl _ _⟩
      · have hT := hasR_any A' n' c' l' Ctl.expN W hl2' hn' hls' (by simp)
        have HE : Hid (Ctl.toldL l' Ctl.expN = ex) := Lib.hid (by rw [HX.out]; simp [h1, h2])
        go_wp2_with fail
        refine hT.mono ?_
        rintro e w3 ⟨rfl, hb3⟩
        go_wp2
        go_meet
        case rel => exact ⟨by rw [HE.out], hb3⟩
  case rest =>
    obtain ⟨rfl, hb3⟩ := hcut
    clear a0 a1 a2 a3 b0 b1 b2 b3 x0 x1 x2 x3 x4 x5 x6 x7 x8 x9 y0 y1 y2 y3 y4 y5 y6 y7 y8 y9
    replace hr1 := row_keep hr1 hb3
    replace hr2 := row_keep hr2 hb3
    replace hA3 := row_keep hA3 hb3
    replace hB3 := row_keep hB3 hb3
    replace hl2 := hl2.step hb3
    replace hl2' := hl2'.step hb3
    replace hb := bnext hb hb3 hb.size
    clear hb3
    obtain ⟨a0, a1, a2, a3, -⟩ := row_facts4 hr1
    obtain ⟨b0, b1, b2, b3, -⟩ := row_facts4 hr2
    obtain ⟨x0, x1, x2, x3, x4, x5, x6, x7, x8, x9, -⟩ := row_facts10 hA3
    obtain ⟨y0, y1, y2, y3, y4, y5, y6, y7, y8, y9, -⟩ := row_facts10 hB3
    cases hm : (m == [71, 69, 84]) with
    | false =>
      have HR : Hid (R = false) := Lib.hid (by rw [HV.out, hm]; simp)
      go_wp2
      go_ret
      exact ⟨ret_bool HR.out.symm, hb⟩
    | true =>
      rw [hm, Bool.true_and] at HV
      cases h1 : cc.noStore with
      | true =>
        have HR : Hid (R = false) := Lib.hid (by rw [HV.out, h1]; simp)
        go_wp2
        go_ret
        exact ⟨ret_bool HR.out.symm, hb⟩
      | false =>
        rw [h1] at HV
        rw [Bool.not_false, Bool.true_and] at HV
        cases h2 : dd.noStore with
        | true =>
          have HR : Hid (R = false) := Lib.hid (by rw [HV.out, h2]; simp)
          go_wp2
          go_ret
          exact ⟨ret_bool HR.out.symm, hb⟩
        | false =>
          rw [h2] at HV
          rw [Bool.not_false, Bool.true_and] at HV
          cases h3 : dd.priv with
          | true =>
            have HR : Hid (R = false) := Lib.hid (by rw [HV.out, h3]; simp)
            go_wp2
            go_ret
            exact ⟨ret_bool HR.out.symm, hb⟩
          | false =>
            rw [h3] at HV
            rw [Bool.not_false, Bool.true_and] at HV
            have HKP : Hid (Ctl.keepL st ex = ([200, 203, 300, 301, 404, 405, 410, 414, 501].any (· == st) || ([302, 307].any (· == st) && ex))) := Lib.hid (keepL_any st ex)
            go_upto_region 6 with fail
            generalize hkp : Ctl.keepL st ex = kp at *
            have hal9 := alloc_below wc (.cells #[.int .i64 200, .int .i64 203, .int .i64 300, .int .i64 301, .int .i64 404, .int .i64 405, .int .i64 410, .int .i64 414, .int .i64 501] 3)
            have hA9 := among_any st _ 9 9 [200, 203, 300, 301, 404, 405, 410, 414, 501] _ (show RdI (wc.alloc (.cells #[.int .i64 200, .int .i64 203, .int .i64 300, .int .i64 301, .int .i64 404, .int .i64 405, .int .i64 410, .int .i64 414, .int .i64 501] 3)) (some ⟨wc.heap.size, 0, none⟩) 9 _ from RdI.lit wc [200, 203, 300, 301, 404, 405, 410, 414, 501] 3) (by omega)
            go_cut [56] (fun v wx => v = .bool (!kp) ∧ Below wc.heap.size wc wx)
            case first =>
              cases h9 : ([200, 203, 300, 301, 404, 405, 410, 414, 501] : List Int).any (· == st) with
              | true =>
                have HE : Hid (kp = true) := Lib.hid (by rw [HKP.out, h9]; rfl)
                rw [h9] at hA9
                go_wp2_with fail
                refine hA9.mono ?_
                rintro e w7 ⟨rfl, rfl⟩
                go_wp2
                go_meet
                case rel => exact ⟨by rw [HE.out]; rfl, hal9⟩
              | false =>
                rw [h9, Bool.false_or] at HKP
                rw [h9] at hA9
                go_wp2_with fail
                refine hA9.mono ?_
                rintro e w7 ⟨rfl, rfl⟩
                clear a0 a1 a2 a3 b0 b1 b2 b3 x0 x1 x2 x3 x4 x5 x6 x7 x8 x9 y0 y1 y2 y3 y4 y5 y6 y7 y8 y9
                have hr2a := row_keep hr2 hal9
                obtain ⟨b0, b1, b2, b3, -⟩ := row_facts4 hr2a
                generalize wc.alloc (.cells #[.int .i64 200, .int .i64 203, .int .i64 300, .int .i64 301, .int .i64 404, .int .i64 405, .int .i64 410, .int .i64 414, .int .i64 501] 3) = wd at *
                have hal2 := alloc_below wd (.cells #[.int .i64 302, .int .i64 307] 3)
                have hA2 := among_any st _ 2 2 [302, 307] _ (show RdI (wd.alloc (.cells #[.int .i64 302, .int .i64 307] 3)) (some ⟨wd.heap.size, 0, none⟩) 2 _ from RdI.lit wd [302, 307] 3) (by omega)
                have hbx := bnext hal9 hal2 hal9.size
                cases h2 : ([302, 307] : List Int).any (· == st) with
                | true =>
                  rw [h2] at hA2
                  have HE : Hid (kp = ex) := Lib.hid (by rw [HKP.out, h2]; rfl)
                  go_wp2_with fail
                  refine hA2.mono ?_
                  rintro e w8 ⟨rfl, rfl⟩
                  go_wp2
                  go_meet
                  case rel => exact ⟨by rw [HE.out], hbx⟩
                | false =>
                  rw [h2] at hA2
                  have HE : Hid (kp = false) := Lib.hid (by rw [HKP.out, h2]; rfl)
                  go_wp2_with fail
                  refine hA2.mono ?_
                  rintro e w8 ⟨rfl, rfl⟩
                  go_wp2
                  go_meet
                  case rel => exact ⟨by rw [HE.out]; rfl, hbx⟩
            case rest =>
              obtain ⟨rfl, hb5⟩ := hcut
              clear a0 a1 a2 a3 b0 b1 b2 b3 x0 x1 x2 x3 x4 x5 x6 x7 x8 x9 y0 y1 y2 y3 y4 y5 y6 y7 y8 y9
              clear hal9 hA9
              replace hr1 := row_keep hr1 hb5
              replace hr2 := row_keep hr2 hb5
              replace hA3 := row_keep hA3 hb5
              replace hB3 := row_keep hB3 hb5
              replace hl2 := hl2.step hb5
              replace hl2' := hl2'.step hb5
              replace hb := bnext hb hb5 hb.size
              clear hb5
              obtain ⟨a0, a1, a2, a3, -⟩ := row_facts4 hr1
              obtain ⟨b0, b1, b2, b3, -⟩ := row_facts4 hr2
              obtain ⟨x0, x1, x2, x3, x4, x5, x6, x7, x8, x9, -⟩ := row_facts10 hA3
              obtain ⟨y0, y1, y2, y3, y4, y5, y6, y7, y8, y9, -⟩ := row_facts10 hB3
              cases kp with
              | false =>
                have HR : Hid (R = false) := Lib.hid (by rw [HV.out]; simp)
                go_wp2
                go_ret
                exact ⟨ret_bool HR.out.symm, hb⟩
              | true =>
                rw [Bool.true_and] at HV
                have hTA := hasR_any A n c l Ctl.authN _ hl2 hn hls (by simp)
                go_upto_region 8 with fail
                have hbz := Below.refl wc.heap.size wc
                go_cut [74] (fun v wx => v = .bool (Ctl.toldL l Ctl.authN && !(dd.pub || (dd.must || decide (0 ≤ dd.sMaxAge)))) ∧ Below wc.heap.size wc wx)
                case first =>
                  cases ha : Ctl.toldL l Ctl.authN with
                  | false =>
                    rw [ha] at hTA
                    go_wp2_with fail
                    refine hTA.mono ?_
                    rintro e w7 ⟨rfl, hb7⟩
                    go_wp2
                    go_meet
                    case rel => exact ⟨by simp [ha], hb7⟩
                  | true =>
                    rw [ha] at hTA
                    go_wp2_with fail
                    refine hTA.mono ?_
                    rintro e w7 ⟨rfl, hb7⟩
                    clear a0 a1 a2 a3 b0 b1 b2 b3 x0 x1 x2 x3 x4 x5 x6 x7 x8 x9 y0 y1 y2 y3 y4 y5 y6 y7 y8 y9
                    replace hr1 := row_keep hr1 hb7
                    replace hr2 := row_keep hr2 hb7
                    replace hA3 := row_keep hA3 hb7
                    replace hB3 := row_keep hB3 hb7
                    replace hl2 := hl2.step hb7
                    replace hl2' := hl2'.step hb7
                    replace hb := bnext hb hb7 hb.size
                    have hb8 := hb7
                    clear hb7
                    obtain ⟨a0, a1, a2, a3, -⟩ := row_facts4 hr1
                    obtain ⟨b0, b1, b2, b3, -⟩ := row_facts4 hr2
                    obtain ⟨x0, x1, x2, x3, x4, x5, x6, x7, x8, x9, -⟩ := row_facts10 hA3
                    obtain ⟨y0, y1, y2, y3, y4, y5, y6, y7, y8, y9, -⟩ := row_facts10 hB3
                    cases hp : dd.pub with
                    | true =>
                      rw [hp] at y3
                      go_wp2
                      go_meet
                      case rel => exact ⟨by simp [hp, ha], hb8⟩
                    | false =>
                      rw [hp] at y3
                      cases hu : dd.must with
                      | true =>
                        rw [hu] at y4
                        go_wp2
                        go_meet
                        case rel => exact ⟨by simp [hp, hu, ha], hb8⟩
                      | false =>
                        rw [hu] at y4
                        by_cases hs : 0 ≤ dd.sMaxAge
                        · have hs2 : ¬ (dd.sMaxAge < 0) := by omega
                          go_wp2
                          go_meet
                          case rel => exact ⟨by simp [hp, hu, ha, hs], hb8⟩
                        · have hs2 : dd.sMaxAge < 0 := by omega
                          go_wp2
                          go_meet
                          case rel => exact ⟨by simp [hp, hu, ha, hs], hb8⟩
                case rest =>
                  obtain ⟨rfl, hb6⟩ := hcut
                  clear a0 a1 a2 a3 b0 b1 b2 b3 x0 x1 x2 x3 x4 x5 x6 x7 x8 x9 y0 y1 y2 y3 y4 y5 y6 y7 y8 y9
                  clear hTA hbz
                  replace hr1 := row_keep hr1 hb6
                  replace hr2 := row_keep hr2 hb6
                  replace hA3 := row_keep hA3 hb6
                  replace hB3 := row_keep hB3 hb6
                  replace hl2 := hl2.step hb6
                  replace hl2' := hl2'.step hb6
                  replace hb := bnext hb hb6 hb.size
                  clear hb6
                  obtain ⟨a0, a1, a2, a3, -⟩ := row_facts4 hr1
                  obtain ⟨b0, b1, b2, b3, -⟩ := row_facts4 hr2
                  obtain ⟨x0, x1, x2, x3, x4, x5, x6, x7, x8, x9, -⟩ := row_facts10 hA3
                  obtain ⟨y0, y1, y2, y3, y4, y5, y6, y7, y8, y9, -⟩ := row_facts10 hB3
                  generalize hau : (Ctl.toldL l Ctl.authN && !(dd.pub || (dd.must || decide (0 ≤ dd.sMaxAge)))) = au at *
                  cases hau2 : au with
                  | true =>
                    have HR : Hid (R = false) := Lib.hid (by rw [HV.out, hau2]; simp)
                    go_wp2
                    go_ret
                    exact ⟨ret_bool HR.out.symm, hb⟩
                  | false =>
                    rw [hau2] at HV
                    rw [Bool.not_false, Bool.true_and] at HV
                    have hH := has_any A' n' c' l' Ctl.varyN Ctl.starN _ hl2' hn' hls' (by simp) (by simp)
                    cases hv : hasL l' Ctl.varyN Ctl.starN with
                    | true =>
                      rw [hv] at hH
                      have HR : Hid (R = false) := Lib.hid (by rw [HV.out, hv]; simp)
                      go_wp2_with fail
                      refine hH.mono ?_
                      rintro e w7 ⟨rfl, hb7⟩
                      replace hb := bnext hb hb7 hb.size
                      go_wp2
                      go_ret
                      exact ⟨ret_bool HR.out.symm, hb⟩
                    | false =>
                      rw [hv] at hH
                      rw [hv, Bool.not_false, Bool.and_true] at HV
                      go_wp2_with fail
                      refine hH.mono ?_
                      rintro e w7 ⟨rfl, hb7⟩
                      clear a0 a1 a2 a3 b0 b1 b2 b3 x0 x1 x2 x3 x4 x5 x6 x7 x8 x9 y0 y1 y2 y3 y4 y5 y6 y7 y8 y9
                      clear hH
                      replace hr1 := row_keep hr1 hb7
                      replace hr2 := row_keep hr2 hb7
                      replace hA3 := row_keep hA3 hb7
                      replace hB3 := row_keep hB3 hb7
                      replace hl2 := hl2.step hb7
                      replace hl2' := hl2'.step hb7
                      replace hb := bnext hb hb7 hb.size
                      clear hb7
                      obtain ⟨a0, a1, a2, a3, -⟩ := row_facts4 hr1
                      obtain ⟨b0, b1, b2, b3, -⟩ := row_facts4 hr2
                      obtain ⟨x0, x1, x2, x3, x4, x5, x6, x7, x8, x9, -⟩ := row_facts10 hA3
                      obtain ⟨y0, y1, y2, y3, y4, y5, y6, y7, y8, y9, -⟩ := row_facts10 hB3
                      have hT := hasR_any A n c l Ctl.rangeN _ hl2 hn hls (by simp)
                      cases hr : Ctl.toldL l Ctl.rangeN with
                      | false =>
                        rw [hr] at hT
                        have HR : Hid (R = true) := Lib.hid (by rw [HV.out, hr]; rfl)
                        go_wp2_with fail
                        refine hT.mono ?_
                        rintro e w8 ⟨rfl, hb8⟩
                        replace hb := bnext hb hb8 hb.size
                        go_wp2
                        go_ret
                        exact ⟨ret_bool HR.out.symm, hb⟩
                      | true =>
                        rw [hr] at hT
                        rw [hr, Bool.true_and] at HV
                        go_wp2_with fail
                        refine hT.mono ?_
                        rintro e w8 ⟨rfl, hb8⟩
                        clear a0 a1 a2 a3 b0 b1 b2 b3 x0 x1 x2 x3 x4 x5 x6 x7 x8 x9 y0 y1 y2 y3 y4 y5 y6 y7 y8 y9
                        clear hT
                        replace hr1 := row_keep hr1 hb8
                        replace hr2 := row_keep hr2 hb8
                        replace hA3 := row_keep hA3 hb8
                        replace hB3 := row_keep hB3 hb8
                        replace hl2 := hl2.step hb8
                        replace hl2' := hl2'.step hb8
                        replace hb := bnext hb hb8 hb.size
                        clear hb8
                        obtain ⟨a0, a1, a2, a3, -⟩ := row_facts4 hr1
                        obtain ⟨b0, b1, b2, b3, -⟩ := row_facts4 hr2
                        obtain ⟨x0, x1, x2, x3, x4, x5, x6, x7, x8, x9, -⟩ := row_facts10 hA3
                        obtain ⟨y0, y1, y2, y3, y4, y5, y6, y7, y8, y9, -⟩ := row_facts10 hB3
                        cases hq : (st.tdiv 100 == 2) with
                        | true =>
                          have HR : Hid (R = false) := Lib.hid (by rw [HV.out, hq]; rfl)
                          go_wp2
                          go_ret
                          exact ⟨ret_bool HR.out.symm, hb⟩
                        | false =>
                          have HR : Hid (R = true) := Lib.hid (by rw [HV.out, hq]; rfl)
                          go_wp2
                          go_ret
                          exact ⟨ret_bool HR.out.symm, hb⟩
end Go.Proofs.YtfhkgbimnfjfhaaDoor

