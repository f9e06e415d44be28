/- Joined texts: The reference's find and number: the first place of a name in a row of directives; its seconds; The reference's Parse of Cache-Control. The conditions stand in each line. -/
import Derived.Test.YtfhkgbimnfjfhaaGreatDoorM12
import Derived.Test.YtfhkgbimnfjfhaaGreatDoorM16
import Derived.Test.YtfhkgbimnfjfhaaGreatDoorM30
set_option linter.unusedVariables false
set_option linter.unusedSimpArgs false
namespace Go.Proofs.YtfhkgbimnfjfhaaGreatDoor
open Go.RowKit

set_option maxRecDepth 100000
namespace Ctl
theorem findD_at {D : List Dir} {nm : List UInt8} {k : Nat} {x : Dir} (h : D[k]? = some x) (hx : x.1 = nm) (ha : ∀ (j : Nat) y, j < k → D[j]? = some y → y.1 ≠ nm) : findD D nm = k := by
  have hk : k < D.length := (List.getElem?_eq_some_iff.1 h).1
  have : D.findIdx? (fun d => d.1 == nm) = some k := by
    rw [List.findIdx?_eq_some_iff_getElem]
    refine ⟨hk, ?_, fun j hj => ?_⟩
    · rw [List.getElem?_eq_getElem hk] at h
      rw [Option.some.inj h]; simpa using hx
    · have hj' : j < D.length := by omega
      simpa using ha j _ hj (List.getElem?_eq_getElem hj')
  unfold findD idxI
  rw [this]
theorem findD_not {D : List Dir} {nm : List UInt8} (ha : ∀ (j : Nat) y, j < D.length → D[j]? = some y → y.1 ≠ nm) : findD D nm = -1 := by
  unfold findD
  refine idxI_none ?_
  rw [Bool.eq_false_iff]
  intro h2
  obtain ⟨x, hx, hp⟩ := List.any_eq_true.1 h2
  obtain ⟨k, hk, e⟩ := List.getElem_of_mem hx
  exact ha k x hk (by rw [List.getElem?_eq_getElem hk, e]) (by simpa using hp)
end Ctl
set_option maxHeartbeats 1000000 in
theorem findR_any (A : Option Addr) (n c : Nat) (D : List Ctl.Dir) (nm : List UInt8) (w : World) (hl : RdD w A n D) (hn : n ≤ 2199023255552) :
    Calls Tryz.prog 54 #[.slice A n c, .string (bs nm)] w fun e w' => e = .returned (.int .i64 (Ctl.findD D nm)) ∧ w = w' := by
  have hln := hl.1
  have HC : Hid (∀ (k : Nat) x, D[k]? = some x → x.1 = nm → (∀ (j : Nat) y, j < k → D[j]? = some y → y.1 ≠ nm) → Ctl.findD D nm = k) := Lib.hid fun k x h hx ha => Ctl.findD_at h hx ha
  have HN : Hid ((∀ (j : Nat) y, j < n → D[j]? = some y → y.1 ≠ nm) → Ctl.findD D nm = -1) := Lib.hid fun h => Ctl.findD_not fun j y hj => h j y (by omega)
  generalize Ctl.findD D nm = R at *
  go_enter Tryz.func54, Tryz.ntmps54
  go_wp2
  go_loop [5] (fun t => ∃ k : Nat, k ≤ n ∧ t = .int .i64 k ∧ Hid (∀ (j : Nat) y, j < k → D[j]? = some y → y.1 ≠ nm)) (fun t => n - (intOf t).toNat)
  case atStart => exact ⟨0, by omega, rfl, Lib.hid fun j y h => by omega⟩
  case round =>
    obtain ⟨k, hk, rfl, HA⟩ := hrel
    by_cases hlt : k < n
    · obtain ⟨g, o, x, rfl, hg, HX, hc1, hc2, hc3⟩ := hl.at_ hlt
      by_cases hx : x.1 = nm
      · have HR := Lib.hid (HC.out k x HX.out hx HA.out)
        have hx2 : (x.1 == nm) = true := by simp [hx]
        clear hl hx hc2 hc3
        go_wp2
        go_ret
        exact ⟨ret_int HR.out.symm, rfl⟩
      · have hx2 : (x.1 == nm) = false := by rw [beq_eq_false_iff_ne]; exact hx
        have HR : Hid (∀ (j : Nat) y, j < k + 1 → D[j]? = some y → y.1 ≠ nm) := Lib.hid fun j y hj hy => by
          by_cases h : j < k
          · exact HA.out j y h hy
          · obtain rfl : j = k := by omega
            rw [HX.out] at hy; cases hy; exact hx
        clear hl hx hc2 hc3
        go_wp2
        go_round
        case rel => exact ⟨k + 1, by omega, by go_num, HR⟩
        case measure => simp [intOf]; omega
    · have HR := Lib.hid (HN.out fun j y hj hy => HA.out j y (by omega) hy)
      go_wp2
      go_ret
      exact ⟨ret_int HR.out.symm, rfl⟩
set_option maxHeartbeats 1000000 in
theorem numberR_any (A : Option Addr) (n c : Nat) (D : List Ctl.Dir) (nm : List UInt8) (w : World) (hl : RdD w A n D) (hn : n ≤ 2199023255552) (hD : ∀ d ∈ D, d.1.length ≤ 1048576 ∧ d.2.1.length ≤ 1048576) :
    Calls Tryz.prog 53 #[.slice A n c, .string (bs nm)] w fun e w' => e = .returned (.int .i64 (Ctl.numD D nm)) ∧ w = w' := by
  have hF := findR_any A n c D nm w hl hn
  cases hf : Ctl.firstD D nm with
  | none =>
    rw [Ctl.findD_none hf] at hF
    have HR : Hid (Ctl.numD D nm = -1) := Lib.hid (by unfold Ctl.numD; rw [hf])
    generalize Ctl.numD D nm = R at *
    go_enter Tryz.func53, Tryz.ntmps53
    go_wp2_with fail
    refine hF.mono ?_
    rintro e w9 ⟨rfl, rfl⟩
    go_wp2
    go_ret
    exact ⟨ret_int HR.out.symm, rfl⟩
  | some d =>
    obtain ⟨k, hk, hkd⟩ := Ctl.findD_some hf
    rw [hk] at hF
    have HR : Hid (Ctl.numD D nm = if Ctl.secL d.2.1 < 0 then 0 else Ctl.secL d.2.1) := Lib.hid (by unfold Ctl.numD; rw [hf])
    generalize Ctl.numD D nm = R at *
    have hkn : k < n := by rw [← hl.1]; exact (List.getElem?_eq_some_iff.1 hkd).1
    obtain ⟨g, o, x, rfl, hg, HX, hc1, hc2, hc3⟩ := hl.at_ hkn
    obtain rfl : x = d := by have := HX.out; rw [hkd] at this; exact (Option.some.inj this).symm
    have hxl := (hD x (List.mem_of_getElem? hkd)).2
    have hS := rsec_any x.2.1 w (by omega)
    have hk0 : ¬ ((k : Int) < 0) := by omega
    clear hf hk hkd hl hD hc1 hc3 HX
    generalize Ctl.secL x.2.1 = v at *
    go_enter Tryz.func53, Tryz.ntmps53
    go_wp2_with fail
    refine hF.mono ?_
    rintro e w9 ⟨rfl, rfl⟩
    go_wp2_with fail
    refine hS.mono ?_
    rintro e w9 ⟨rfl, rfl⟩
    by_cases hv : v < 0
    · have HV : Hid (R = 0) := Lib.hid (by rw [HR.out, if_pos hv])
      go_wp2
      go_ret
      exact ⟨ret_int HV.out.symm, rfl⟩
    · have HV : Hid (R = v) := Lib.hid (by rw [HR.out, if_neg hv])
      go_wp2
      go_ret
      exact ⟨ret_int HV.out.symm, rfl⟩
end Go.Proofs.YtfhkgbimnfjfhaaGreatDoor
set_option linter.unusedVariables false
set_option linter.unusedSimpArgs false
namespace Go.Proofs.YtfhkgbimnfjfhaaGreatDoor
open Go.RowKit

set_option maxRecDepth 100000
theorem RdD.stepB {w w' : World} {A : Option Addr} {n g : Nat} {l : List Ctl.Dir} (h : RdD w A n l) (hlt : w.heap.size ≤ g) (hb : Below g w w') : RdD w' A n l := h.step (hb.mono hlt)
set_option maxHeartbeats 8000000 in
theorem parseR_any (A : Option Addr) (n c : Nat) (l : List Fld) (w : World) (hl : RdF w A n l) (hn : n ≤ 1048576) (hls : FlenS l) :
    Calls Tryz.prog 31 #[.slice A n c] w fun e w' => e = .returned (ctV (Ctl.ctlL l)) ∧ Below w.heap.size w w' := by
  have hal := alloc_below w (.cells #[.bool false, .bool false, .bool false, .bool false, .bool false, .bool false, .int .i64 0, .int .i64 0, .int .i64 0, .int .i64 0] 37)
  have hres := heap_alloc_new w (.cells #[.bool false, .bool false, .bool false, .bool false, .bool false, .bool false, .int .i64 0, .int .i64 0, .int .i64 0, .int .i64 0] 37)
  have HC : Hid (Ctl.ctlL l = Ctl.ctD (Ctl.dirsV (valuesL l Ctl.ccN)) (Ctl.oldL l)) := Lib.hid rfl
  have HD0 : Hid (∀ d ∈ Ctl.dirsV (valuesL l Ctl.ccN), d.1.length ≤ 1048576 ∧ d.2.1.length ≤ 1048576) := Lib.hid (Ctl.dirsV_each fun v hv => values_each hls hv)
  have hDl : (Ctl.dirsV (valuesL l Ctl.ccN)).length ≤ 2199023255552 := by
    have h1 := Ctl.dirsV_le (valuesL l Ctl.ccN) n (fun v hv => values_each hls hv)
    have h2 := values_le l Ctl.ccN
    rw [hl.1] at h2
    rw [List.take_of_length_le h2] at h1
    have h3 : n * 1048577 ≤ 1048576 * 1048577 := Nat.mul_le_mul_right _ hn
    omega
  have hdir := directives_own A n c l _ (hl.step hal) hn hls
  have hR0 : w.heap.size < (w.alloc (.cells #[.bool false, .bool false, .bool false, .bool false, .bool false, .bool false, .int .i64 0, .int .i64 0, .int .i64 0, .int .i64 0] 37)).heap.size := by simp
  generalize Ctl.dirsV (valuesL l Ctl.ccN) = D at *
  go_enter Tryz.func31, Tryz.ntmps31
  go_wp2_with fail
  refine hdir.mono ?_
  rintro e Wp ⟨A1, n1, c1, rfl, hown, hb1⟩
  have hrd := hown.rd
  replace hres := row_keep hres hb1
  have hgR : w.heap.size < Wp.heap.size := Nat.lt_of_lt_of_le hR0 hb1.size
  have hbg := bnext hal hb1 hal.size
  have hn1 : n1 ≤ 2199023255552 := by rw [← hrd.1]; exact hDl
  have HD := HD0
  clear hown hb1 hal hDl hR0 hdir HD0
  have hN1 := numberR_any A1 n1 c1 D Ctl.maxAgeN Wp hrd hn1 HD.out
  have hN2 := numberR_any A1 n1 c1 D Ctl.sMaxN Wp hrd hn1 HD.out
  have hN3 := numberR_any A1 n1 c1 D Ctl.minFreshN Wp hrd hn1 HD.out
  go_wp2_with fail
  refine hN1.mono ?_
  rintro e w9 ⟨rfl, rfl⟩
  go_wp2_with fail
  refine hN2.mono ?_
  rintro e w9 ⟨rfl, rfl⟩
  go_wp2_with fail
  refine hN3.mono ?_
  rintro e w9 ⟨rfl, rfl⟩
  go_upto_region 3 with fail
  clear hN1 hN2 hN3
  have hbP := alloc_below Wp (.cells #[.bool false, .bool false, .bool false, .bool false, .bool false, .bool false, .int .i64 (Ctl.numD D Ctl.maxAgeN), .int .i64 (Ctl.numD D Ctl.sMaxN), .int .i64 (Ctl.numD D Ctl.minFreshN), .int .i64 (-1)] 37)
  have hrow := heap_alloc_new Wp (.cells #[.bool false, .bool false, .bool false, .bool false, .bool false, .bool false, .int .i64 (Ctl.numD D Ctl.maxAgeN), .int .i64 (Ctl.numD D Ctl.sMaxN), .int .i64 (Ctl.numD D Ctl.minFreshN), .int .i64 (-1)] 37)
  generalize Wp.alloc (.cells #[.bool false, .bool false, .bool false, .bool false, .bool false, .bool false, .int .i64 (Ctl.numD D Ctl.maxAgeN), .int .i64 (Ctl.numD D Ctl.sMaxN), .int .i64 (Ctl.numD D Ctl.minFreshN), .int .i64 (-1)] 37) = V0 at *
  have hlt' : ∀ gd od, A1 = some ⟨gd, od, none⟩ → 0 < n1 → gd < Wp.heap.size := fun gd od h h0 => by
    obtain ⟨g', o', x', h1, h2, -⟩ := hrd.at_ h0
    rw [h] at h1
    simp at h1
    rw [h1.1]; exact h2
  obtain ⟨g, hgd⟩ : ∃ g, g = Wp.heap.size := ⟨_, rfl⟩
  have hlt : Wp.heap.size ≤ g := by omega
  have hgle : w.heap.size ≤ g := by omega
  rw [← hgd] at hlt' hgR
  rw [← hgd] at hbP hrow ⊢
  clear hgd
  have hF := findR_any A1 n1 c1 D Ctl.noStoreN V0 (hrd.stepB hlt hbP) hn1
  have hH := Ctl.findD_has D Ctl.noStoreN
  generalize Ctl.findD D Ctl.noStoreN = f at *
  go_wp2_with fail
  refine hF.mono ?_
  rintro e w9 ⟨rfl, rfl⟩
  obtain ⟨q0, q1, q2, q3, q4, q5, q6, q7, q8, q9, f0, f1, f2, f3, f4, f5, f6, f7, f8, f9⟩ := row_facts10 hrow
  go_upto_region 4 with fail
  clear q0 q1 q2 q3 q4 q5 q6 q7 q8 q9 f0 f1 f2 f3 f4 f5 f6 f7 f8 f9
  clear hF hH
  replace hbP := hbP.setCell (p := ⟨g, 0, none⟩) (Nat.le_refl _) (.bool (Ctl.hasD D Ctl.noStoreN))
  replace hrow : (V0.setCell ⟨g, 0, none⟩ (.bool (Ctl.hasD D Ctl.noStoreN))).heap[g]? = some (.cells #[.bool (Ctl.hasD D Ctl.noStoreN), .bool false, .bool false, .bool false, .bool false, .bool false, .int .i64 (Ctl.numD D Ctl.maxAgeN), .int .i64 (Ctl.numD D Ctl.sMaxN), .int .i64 (Ctl.numD D Ctl.minFreshN), .int .i64 (-1)] 37 (0, 0)) := by simpa using DA.heap_set hrow 0 (.bool (Ctl.hasD D Ctl.noStoreN))
  generalize V0.setCell ⟨g, 0, none⟩ (.bool (Ctl.hasD D Ctl.noStoreN)) = V1 at *
  have hF := findR_any A1 n1 c1 D Ctl.noCacheN V1 (hrd.stepB hlt hbP) hn1
  have hH := Ctl.findD_has D Ctl.noCacheN
  generalize Ctl.findD D Ctl.noCacheN = f at *
  go_wp2_with fail
  refine hF.mono ?_
  rintro e w9 ⟨rfl, rfl⟩
  obtain ⟨q0, q1, q2, q3, q4, q5, q6, q7, q8, q9, f0, f1, f2, f3, f4, f5, f6, f7, f8, f9⟩ := row_facts10 hrow
  go_upto_region 5 with fail
  clear q0 q1 q2 q3 q4 q5 q6 q7 q8 q9 f0 f1 f2 f3 f4 f5 f6 f7 f8 f9
  clear hF hH
  replace hbP := hbP.setCell (p := ⟨g, 1, none⟩) (Nat.le_refl _) (.bool (Ctl.hasD D Ctl.noCacheN))
  replace hrow : (V1.setCell ⟨g, 1, none⟩ (.bool (Ctl.hasD D Ctl.noCacheN))).heap[g]? = some (.cells #[.bool (Ctl.hasD D Ctl.noStoreN), .bool (Ctl.hasD D Ctl.noCacheN), .bool false, .bool false, .bool false, .bool false, .int .i64 (Ctl.numD D Ctl.maxAgeN), .int .i64 (Ctl.numD D Ctl.sMaxN), .int .i64 (Ctl.numD D Ctl.minFreshN), .int .i64 (-1)] 37 (0, 0)) := by simpa using DA.heap_set hrow 1 (.bool (Ctl.hasD D Ctl.noCacheN))
  generalize V1.setCell ⟨g, 1, none⟩ (.bool (Ctl.hasD D Ctl.noCacheN)) = V2 at *
  have hF := findR_any A1 n1 c1 D Ctl.privN V2 (hrd.stepB hlt hbP) hn1
  have hH := Ctl.findD_has D Ctl.privN
  generalize Ctl.findD D Ctl.privN = f at *
  go_wp2_with fail
  refine hF.mono ?_
  rintro e w9 ⟨rfl, rfl⟩
  obtain ⟨q0, q1, q2, q3, q4, q5, q6, q7, q8, q9, f0, f1, f2, f3, f4, f5, f6, f7, f8, f9⟩ := row_facts10 hrow
  go_upto_region 6 with fail
  clear q0 q1 q2 q3 q4 q5 q6 q7 q8 q9 f0 f1 f2 f3 f4 f5 f6 f7 f8 f9
  clear hF hH
  replace hbP := hbP.setCell (p := ⟨g, 2, none⟩) (Nat.le_refl _) (.bool (Ctl.hasD D Ctl.privN))
  replace hrow : (V2.setCell ⟨g, 2, none⟩ (.bool (Ctl.hasD D Ctl.privN))).heap[g]? = some (.cells #[.bool (Ctl.hasD D Ctl.noStoreN), .bool (Ctl.hasD D Ctl.noCacheN), .bool (Ctl.hasD D Ctl.privN), .bool false, .bool false, .bool false, .int .i64 (Ctl.numD D Ctl.maxAgeN), .int .i64 (Ctl.numD D Ctl.sMaxN), .int .i64 (Ctl.numD D Ctl.minFreshN), .int .i64 (-1)] 37 (0, 0)) := by simpa using DA.heap_set hrow 2 (.bool (Ctl.hasD D Ctl.privN))
  generalize V2.setCell ⟨g, 2, none⟩ (.bool (Ctl.hasD D Ctl.privN)) = V3 at *
  have hF := findR_any A1 n1 c1 D Ctl.pubN V3 (hrd.stepB hlt hbP) hn1
  have hH := Ctl.findD_has D Ctl.pubN
  generalize Ctl.findD D Ctl.pubN = f at *
  go_wp2_with fail
  refine hF.mono ?_
  rintro e w9 ⟨rfl, rfl⟩
  obtain ⟨q0, q1, q2, q3, q4, q5, q6, q7, q8, q9, f0, f1, f2, f3, f4, f5, f6, f7, f8, f9⟩ := row_facts10 hrow
  go_upto_region 7 with fail
  clear q0 q1 q2 q3 q4 q5 q6 q7 q8 q9 f0 f1 f2 f3 f4 f5 f6 f7 f8 f9
  clear hF hH
  replace hbP := hbP.setCell (p := ⟨g, 3, none⟩) (Nat.le_refl _) (.bool (Ctl.hasD D Ctl.pubN))
  replace hrow : (V3.setCell ⟨g, 3, none⟩ (.bool (Ctl.hasD D Ctl.pubN))).heap[g]? = some (.cells #[.bool (Ctl.hasD D Ctl.noStoreN), .bool (Ctl.hasD D Ctl.noCacheN), .bool (Ctl.hasD D Ctl.privN), .bool (Ctl.hasD D Ctl.pubN), .bool false, .bool false, .int .i64 (Ctl.numD D Ctl.maxAgeN), .int .i64 (Ctl.numD D Ctl.sMaxN), .int .i64 (Ctl.numD D Ctl.minFreshN), .int .i64 (-1)] 37 (0, 0)) := by simpa using DA.heap_set hrow 3 (.bool (Ctl.hasD D Ctl.pubN))
  generalize V3.setCell ⟨g, 3, none⟩ (.bool (Ctl.hasD D Ctl.pubN)) = V4 at *
  have hFa := findR_any A1 n1 c1 D Ctl.mustN V4 (hrd.stepB hlt hbP) hn1
  have hFb := findR_any A1 n1 c1 D Ctl.proxyN V4 (hrd.stepB hlt hbP) hn1
  have hHa := Ctl.findD_has D Ctl.mustN
  have hHb := Ctl.findD_has D Ctl.proxyN
  generalize Ctl.findD D Ctl.mustN = fa at *
  generalize Ctl.findD D Ctl.proxyN = fb at *
  generalize hmp : (Ctl.hasD D Ctl.mustN || Ctl.hasD D Ctl.proxyN) = mp at *
  have HMP := Lib.hid hmp
  clear hmp
  obtain ⟨q0, q1, q2, q3, q4, q5, q6, q7, q8, q9, f0, f1, f2, f3, f4, f5, f6, f7, f8, f9⟩ := row_facts10 hrow
  go_cut [38] (fun v wx => v = .bool mp ∧ wx = V4.setCell ⟨g, 4, none⟩ (.bool mp))
  case first =>
    by_cases ha : 0 ≤ fa
    · have hm : Ctl.hasD D Ctl.mustN = true := by rw [← hHa]; simpa using ha
      have HM : Hid (mp = true) := Lib.hid (by rw [← HMP.out, hm]; rfl)
      clear hm hHa
      go_wp2_with fail
      refine hFa.mono ?_
      rintro e w9 ⟨rfl, rfl⟩
      go_wp2
      go_meet
      case rel => exact ⟨by rw [HM.out], by rw [HM.out]⟩
    · have hm : Ctl.hasD D Ctl.mustN = false := by rw [← hHa]; simpa using ha
      have HM : Hid (mp = Ctl.hasD D Ctl.proxyN) := Lib.hid (by rw [← HMP.out, hm]; rfl)
      clear hm hHa
      go_wp2_with fail
      refine hFa.mono ?_
      rintro e w9 ⟨rfl, rfl⟩
      go_wp2_with fail
      refine hFb.mono ?_
      rintro e w9 ⟨rfl, rfl⟩
      go_wp2
      go_meet
      have hz : decide (0 ≤ fa) = false := decide_eq_false (by omega)
      case rel => exact ⟨by rw [HM.out, hz, Bool.false_or], by rw [HM.out, hz, Bool.false_or]⟩
  case rest =>
    obtain ⟨rfl, rfl⟩ := hcut
    clear q0 q1 q2 q3 q4 q5 q6 q7 q8 q9 f0 f1 f2 f3 f4 f5 f6 f7 f8 f9
    clear hFa hFb hHa hHb
    replace hbP := hbP.setCell (p := ⟨g, 4, none⟩) (Nat.le_refl _) (.bool mp)
    replace hrow : (V4.setCell ⟨g, 4, none⟩ (.bool mp)).heap[g]? = some (.cells #[.bool (Ctl.hasD D Ctl.noStoreN), .bool (Ctl.hasD D Ctl.noCacheN), .bool (Ctl.hasD D Ctl.privN), .bool (Ctl.hasD D Ctl.pubN), .bool mp, .bool false, .int .i64 (Ctl.numD D Ctl.maxAgeN), .int .i64 (Ctl.numD D Ctl.sMaxN), .int .i64 (Ctl.numD D Ctl.minFreshN), .int .i64 (-1)] 37 (0, 0)) := by simpa using DA.heap_set hrow 4 (.bool mp)
    generalize V4.setCell ⟨g, 4, none⟩ (.bool mp) = V5 at *
    have hF := findR_any A1 n1 c1 D Ctl.onlyN V5 (hrd.stepB hlt hbP) hn1
    have hH := Ctl.findD_has D Ctl.onlyN
    generalize Ctl.findD D Ctl.onlyN = f at *
    go_wp2_with fail
    refine hF.mono ?_
    rintro e w9 ⟨rfl, rfl⟩
    obtain ⟨q0, q1, q2, q3, q4, q5, q6, q7, q8, q9, f0, f1, f2, f3, f4, f5, f6, f7, f8, f9⟩ := row_facts10 hrow
    go_upto_region 9 with fail
    clear q0 q1 q2 q3 q4 q5 q6 q7 q8 q9 f0 f1 f2 f3 f4 f5 f6 f7 f8 f9
    clear hF hH
    replace hbP := hbP.setCell (p := ⟨g, 5, none⟩) (Nat.le_refl _) (.bool (Ctl.hasD D Ctl.onlyN))
    replace hrow : (V5.setCell ⟨g, 5, none⟩ (.bool (Ctl.hasD D Ctl.onlyN))).heap[g]? = some (.cells #[.bool (Ctl.hasD D Ctl.noStoreN), .bool (Ctl.hasD D Ctl.noCacheN), .bool (Ctl.hasD D Ctl.privN), .bool (Ctl.hasD D Ctl.pubN), .bool mp, .bool (Ctl.hasD D Ctl.onlyN), .int .i64 (Ctl.numD D Ctl.maxAgeN), .int .i64 (Ctl.numD D Ctl.sMaxN), .int .i64 (Ctl.numD D Ctl.minFreshN), .int .i64 (-1)] 37 (0, 0)) := by simpa using DA.heap_set hrow 5 (.bool (Ctl.hasD D Ctl.onlyN))
    generalize V5.setCell ⟨g, 5, none⟩ (.bool (Ctl.hasD D Ctl.onlyN)) = V6 at *
    obtain ⟨R, hpt⟩ : ∃ R, Ctl.patD D Ctl.maxStaleN = R := ⟨_, rfl⟩
    have HPT := Lib.hid hpt
    clear hpt
    have hF := findR_any A1 n1 c1 D Ctl.maxStaleN V6 (hrd.stepB hlt hbP) hn1
    have HFN : Hid (Ctl.firstD D Ctl.maxStaleN = none → Ctl.findD D Ctl.maxStaleN = -1) := Lib.hid Ctl.findD_none
    have HFS : Hid (∀ d, Ctl.firstD D Ctl.maxStaleN = some d → ∃ k : Nat, Ctl.findD D Ctl.maxStaleN = k ∧ D[k]? = some d) := Lib.hid fun d h => Ctl.findD_some h
    generalize Ctl.findD D Ctl.maxStaleN = f at *
    go_wp2_with fail
    refine hF.mono ?_
    rintro e w9 ⟨rfl, rfl⟩
    go_upto_if 47 with fail
    clear hF
    go_cut [5] (fun v wx => wx.heap[g]? = some (.cells #[.bool (Ctl.hasD D Ctl.noStoreN), .bool (Ctl.hasD D Ctl.noCacheN), .bool (Ctl.hasD D Ctl.privN), .bool (Ctl.hasD D Ctl.pubN), .bool mp, .bool (Ctl.hasD D Ctl.onlyN), .int .i64 (Ctl.numD D Ctl.maxAgeN), .int .i64 (Ctl.numD D Ctl.sMaxN), .int .i64 (Ctl.numD D Ctl.minFreshN), .int .i64 R] 37 (0, 0)) ∧ Below g Wp wx)
    case first =>
      cases hf : Ctl.firstD D Ctl.maxStaleN with
      | none =>
        obtain rfl := HFN.out hf
        have HP : Hid (R = -1) := Lib.hid (by rw [← HPT.out]; unfold Ctl.patD; rw [hf])
        go_wp2
        go_meet
        case rel => exact ⟨by rw [HP.out]; exact hrow, hbP⟩
      | some d =>
        obtain ⟨k, rfl, hkd⟩ := HFS.out d hf
        have HR : Hid (R = if d.2.2 = true then Ctl.secL d.2.1 else 2147483648) := Lib.hid (by rw [← HPT.out]; unfold Ctl.patD; rw [hf])
        have hkn : k < n1 := by rw [← hrd.1]; exact (List.getElem?_eq_some_iff.1 hkd).1
        have hrd6 := hrd.stepB hlt hbP
        obtain ⟨gd, od, x, rfl, hg, HX, hc1, hc2, hc3⟩ := hrd6.at_ hkn
        obtain rfl : x = d := by have := HX.out; rw [hkd] at this; exact (Option.some.inj this).symm
        have hxl := (HD.out x (List.mem_of_getElem? hkd)).2
        have hk0 : 0 ≤ (k : Int) := by omega
        have hgd := hlt' _ _ rfl (by omega)
        obtain ⟨q0, q1, q2, q3, q4, q5, q6, q7, q8, q9, f0, f1, f2, f3, f4, f5, f6, f7, f8, f9⟩ := row_facts10 hrow
        go_upto_region 12 with fail
        clear q0 q1 q2 q3 q4 q5 q6 q7 q8 q9 f0 f1 f2 f3 f4 f5 f6 f7 f8 f9
        have hbQ := hbP.setCell (p := ⟨g, 9, none⟩) (Nat.le_refl _) (.int .i64 2147483648)
        have hrow2 : (V6.setCell ⟨g, 9, none⟩ (.int .i64 2147483648)).heap[g]? = some (.cells #[.bool (Ctl.hasD D Ctl.noStoreN), .bool (Ctl.hasD D Ctl.noCacheN), .bool (Ctl.hasD D Ctl.privN), .bool (Ctl.hasD D Ctl.pubN), .bool mp, .bool (Ctl.hasD D Ctl.onlyN), .int .i64 (Ctl.numD D Ctl.maxAgeN), .int .i64 (Ctl.numD D Ctl.sMaxN), .int .i64 (Ctl.numD D Ctl.minFreshN), .int .i64 2147483648] 37 (0, 0)) := by simpa using DA.heap_set hrow 9 (.int .i64 2147483648)
        have e2 : (V6.setCell ⟨g, 9, none⟩ (.int .i64 2147483648)).cell? ⟨gd, od + k * 3 + 1, none⟩ = some (.string (bs x.2.1)) := (World.cell?_of_block (DA.heap_rest (Nat.ne_of_lt hgd) 9 _)).trans hc2
        have e3 : (V6.setCell ⟨g, 9, none⟩ (.int .i64 2147483648)).cell? ⟨gd, od + k * 3 + 2, none⟩ = some (.bool x.2.2) := (World.cell?_of_block (DA.heap_rest (Nat.ne_of_lt hgd) 9 _)).trans hc3
        generalize V6.setCell ⟨g, 9, none⟩ (.int .i64 2147483648) = V7 at *
        clear hbP hrow hc1 hc2 hc3 hrd6
        cases hh : x.2.2 with
        | false =>
          rw [hh] at e3 HR
          have HP : Hid (R = 2147483648) := Lib.hid (by rw [HR.out]; rfl)
          go_wp2
          go_meet
          case rel => exact ⟨by rw [HP.out]; exact hrow2, hbQ⟩
        | true =>
          rw [hh] at e3 HR
          have HP : Hid (Ctl.secL x.2.1 = R) := Lib.hid (by rw [HR.out]; rfl)
          have hS := rsec_any x.2.1 V7 (by omega)
          generalize Ctl.secL x.2.1 = sv at *
          obtain ⟨q0, q1, q2, q3, q4, q5, q6, q7, q8, q9, f0, f1, f2, f3, f4, f5, f6, f7, f8, f9⟩ := row_facts10 hrow2
          go_wp2_with fail
          refine hS.mono ?_
          rintro e w9 ⟨rfl, rfl⟩
          go_wp2
          go_meet
          case rel => exact ⟨by rw [← HP.out]; simpa using DA.heap_set hrow2 9 (.int .i64 sv), hbQ.setCell (p := ⟨g, 9, none⟩) (Nat.le_refl _) _⟩
    case rest =>
      obtain ⟨hrow8, hb8⟩ := hcut
      clear hrow hbP
      have hbr := bnext hbg (hb8.mono hlt) hbg.size
      have hres8 := hb8.block w.heap.size hgR
      rw [hres] at hres8
      have hl8 := hl.step hbr
      have hgW : g < wc.heap.size := (Array.getElem?_eq_some_iff.1 hrow8).1
      clear hb8 hres hrd hbg hlt hlt' HD
      go_wp2_with fail
      refine (valuesR_own A n c l Ctl.ccN _ hl8 (by omega) hls.ok (by simp)).mono ?_
      rintro e w10 ⟨A3, n3, c3, rfl, hS3, hb10⟩
      have hrd3 := hS3.rd
      have hrow10 := row_keep hrow8 hb10
      have hres10 := row_keep hres8 hb10
      have hbr10 := bnext hbr hb10 hbr.size
      have hl10 := hl8.step hb10
      have hVe : (valuesL l Ctl.ccN).isEmpty = decide (n3 = 0) := by
        rw [← hrd3.1]
        cases valuesL l Ctl.ccN <;> simp
      have HOL : Hid (Ctl.oldL l = (decide (n3 = 0) && hasL l Ctl.pragmaN Ctl.noCacheN)) := Lib.hid (by unfold Ctl.oldL; rw [hVe])
      have hn3 : n3 ≤ 1048576 := by have := values_le l Ctl.ccN; rw [hl.1, hrd3.1] at this; omega
      clear hS3 hrd3 hVe hrow8 hres8 hbr hl8 hb10
      by_cases h0 : n3 = 0
      · subst h0
        have hHas := has_any A n c l Ctl.pragmaN Ctl.noCacheN w10 hl10 hn hls (by simp) (by simp)
        generalize hasL l Ctl.pragmaN Ctl.noCacheN = o at *
        go_wp2_with fail
        refine hHas.mono ?_
        rintro e w11 ⟨rfl, hb11⟩
        have hrowF := row_keep hrow10 hb11
        have hresF := row_keep hres10 hb11
        have hbF := bnext hbr10 hb11 hbr10.size
        clear hrow10 hres10 hbr10 hb11 hHas
        cases o with
        | true =>
          have HO : Hid (Ctl.oldL l = true) := Lib.hid (by rw [HOL.out]; rfl)
          obtain ⟨q0, q1, q2, q3, q4, q5, q6, q7, q8, q9, f0, f1, f2, f3, f4, f5, f6, f7, f8, f9⟩ := row_facts10 hrowF
          obtain ⟨z0, z1, z2, z3, z4, z5, z6, z7, z8, z9, y0, y1, y2, y3, y4, y5, y6, y7, y8, y9⟩ := row_facts10 hresF
          clear hrowF hresF
          go_wp2
          refine bodyPost_ret (v := ctV (Ctl.ctlL l)) (by rw [HC.out, HO.out, ← HPT.out]; simp [results, Tryz.results31, go_sem, z0, z1, z2, z3, z4, z5, z6, z7, z8, z9, q0, q1, q2, q3, q4, q5, q6, q7, q8, q9, ctV, Ctl.ctD, HMP.out]) rfl ⟨rfl, ?_⟩
          repeat refine Below.setCell ?_ (by first | exact Nat.le_refl _ | exact hgle) _
          exact hbF
        | false =>
          have HO : Hid (Ctl.oldL l = false) := Lib.hid (by rw [HOL.out]; rfl)
          obtain ⟨q0, q1, q2, q3, q4, q5, q6, q7, q8, q9, f0, f1, f2, f3, f4, f5, f6, f7, f8, f9⟩ := row_facts10 hrowF
          obtain ⟨z0, z1, z2, z3, z4, z5, z6, z7, z8, z9, y0, y1, y2, y3, y4, y5, y6, y7, y8, y9⟩ := row_facts10 hresF
          clear hrowF hresF
          go_wp2
          refine bodyPost_ret (v := ctV (Ctl.ctlL l)) (by rw [HC.out, HO.out, ← HPT.out]; simp [results, Tryz.results31, go_sem, z0, z1, z2, z3, z4, z5, z6, z7, z8, z9, q0, q1, q2, q3, q4, q5, q6, q7, q8, q9, ctV, Ctl.ctD, HMP.out]) rfl ⟨rfl, ?_⟩
          repeat refine Below.setCell ?_ (by first | exact Nat.le_refl _ | exact hgle) _
          exact hbF
      · have HO : Hid (Ctl.oldL l = false) := Lib.hid (by rw [HOL.out]; simp [h0])
        have hrowF := hrow10
        have hresF := hres10
        have hbF := hbr10
        have hn0 : ((n3 : Int) == 0) = false := by rw [beq_eq_false_iff_ne]; omega
        clear hrow10 hres10 hbr10
        obtain ⟨q0, q1, q2, q3, q4, q5, q6, q7, q8, q9, f0, f1, f2, f3, f4, f5, f6, f7, f8, f9⟩ := row_facts10 hrowF
        obtain ⟨z0, z1, z2, z3, z4, z5, z6, z7, z8, z9, y0, y1, y2, y3, y4, y5, y6, y7, y8, y9⟩ := row_facts10 hresF
        clear hrowF hresF
        go_wp2
        refine bodyPost_ret (v := ctV (Ctl.ctlL l)) (by rw [HC.out, HO.out, ← HPT.out]; simp [results, Tryz.results31, go_sem, z0, z1, z2, z3, z4, z5, z6, z7, z8, z9, q0, q1, q2, q3, q4, q5, q6, q7, q8, q9, ctV, Ctl.ctD, HMP.out]) rfl ⟨rfl, ?_⟩
        repeat refine Below.setCell ?_ (by first | exact Nat.le_refl _ | exact hgle) _
        exact hbF
end Go.Proofs.YtfhkgbimnfjfhaaGreatDoor
