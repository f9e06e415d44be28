/- The reference's rule: how a body ends. Conditions: at most 2^20 fields, texts of at most 2^20 bytes. -/
import Derived.Test.YtocgnjkikgcjdaaDoorRule
import Derived.Deep.QuietTactic
import Derived.BigQuiet
set_option linter.unusedVariables false
set_option linter.unusedSimpArgs false
namespace Go.Proofs.YtocgnjkikgcjdaaDoor
open Go.RowKit

theorem numR_same (s : List UInt8) (w : World) : Calls Tryd.prog 41 #[.string (bs s)] w fun e w' => e = .returned (.int .i64 (numL s)) ∧ w' = w :=
  (numR_any s w).mono fun e w' h => ⟨h.1, h.2.symm⟩
theorem elems_le (V : List (List UInt8)) (k : Nat) (h : ∀ v ∈ V, v.length ≤ 1048576) : (elemsV (V.take k)).length ≤ k * 1048577 := by
  have h1 := toksV_le V k h
  have e : (toksV (V.take k)).length = (elemsV (V.take k)).length := by
    generalize V.take k = W
    induction W with
    | nil => rfl
    | cons x r ih => unfold toksV elemsV at *; simp only [List.map_cons, List.flatten_cons, List.length_append, List.length_map] at *; omega
  rw [← e]; exact h1
theorem lenL_same {E : List (List UInt8)} {x : List UInt8} (hx : E[0]? = some x) (ha : ∀ (j : Nat) y, E[j]? = some y → 0 ≤ numL y ∧ numL y = numL x) : lenL E = if numL x > 65536 then (0, 71) else (numL x, 0) := by
  have h0 := (ha 0 x hx).1
  rw [lenL_told (E := E) (v := numL x) (.inr ⟨(by rintro rfl; cases hx), h0, fun y hy => ?_⟩), if_neg (by omega)]
  obtain ⟨j, hj, rfl⟩ := List.getElem_of_mem hy
  exact (ha j _ (List.getElem?_eq_getElem hj)).2

set_option maxRecDepth 20000 in
set_option maxHeartbeats 2000000 in
theorem ruleR_any (minor : Int) (A : Option Addr) (n c : Nat) (l : List Fld) (w : World) (hl : RdF w A n l) (hn : n ≤ 1048576) (hls : FlenS l) :
    Calls Tryd.prog 29 #[.int .i64 minor, .slice A n c] w fun e w' => e = .returned (bodyV (ruleL minor l 0)) ∧ Below w.heap.size w w' := by
  have HC1 : Hid ((valuesL l nTE).isEmpty = false → (valuesL l nCL).isEmpty = false → bodyV (ruleL minor l 0) = bodyV (0, 0, 61)) := Lib.hid fun h1 h2 => by unfold ruleL; rw [if_pos h1, if_pos h2]
  have HC2 : Hid ((valuesL l nTE).isEmpty = false → (valuesL l nCL).isEmpty = true → (minor == 0 || !(tokensL l nTE == [wCh])) = true → bodyV (ruleL minor l 0) = bodyV (0, 0, 62)) := Lib.hid fun h1 h2 h3 => by unfold ruleL; rw [if_pos h1, if_neg (by rw [h2]; decide), if_pos h3]
  have HC3 : Hid ((valuesL l nTE).isEmpty = false → (valuesL l nCL).isEmpty = true → (minor == 0 || !(tokensL l nTE == [wCh])) = false → bodyV (ruleL minor l 0) = bodyV (2, 0, 0)) := Lib.hid fun h1 h2 h3 => by unfold ruleL; rw [if_pos h1, if_neg (by rw [h2]; decide), if_neg (by rw [h3]; decide)]
  have HC4 : Hid ((valuesL l nTE).isEmpty = true → (valuesL l nCL).isEmpty = true → bodyV (ruleL minor l 0) = bodyV (0, 0, 0)) := Lib.hid fun h1 h2 => by unfold ruleL; rw [if_neg (by rw [h1]; decide), if_pos h2]
  have HC5 : Hid ((valuesL l nTE).isEmpty = true → (valuesL l nCL).isEmpty = false → ∀ E, E = elemsV (valuesL l nCL) → ∀ a b : Int, lenL E = (a, b) → bodyV (ruleL minor l 0) = if b = 0 then bodyV (1, a, 0) else bodyV (0, 0, b)) := Lib.hid fun h1 h2 E hE a b h3 => by
    rw [hE] at h3
    unfold ruleL
    rw [if_neg (by rw [h1]; decide), if_neg (by rw [h2]; decide), h3]
    split <;> rfl
  have HTl : Hid ((tokensL l nTE).length ≤ n * 1048577) := Lib.hid (by rw [← hl.1]; exact tokens_len hls)
  have HVe : Hid (∀ v ∈ valuesL l nCL, v.length ≤ 1048576) := Lib.hid fun v hv => values_each hls hv
  have HVn : Hid ((valuesL l nCL).length ≤ n) := Lib.hid (by rw [← hl.1]; exact values_le l nCL)
  generalize bodyV (ruleL minor l 0) = R at *
  have hal := alloc_below w (.cells #[.int .i64 0, .int .i64 0] 31)
  go_enter Tryd.func29, Tryd.ntmps29
  go_wp2_with fail
  refine (valuesR_own A n c l nTE _ (hl.step hal) (by omega) hls.ok (by decide)).mono ?_
  rintro e w1 ⟨A1, n1, c1, rfl, hS1, hb1⟩
  have hl1len := hS1.rd.1
  have hn1e : (valuesL l nTE).isEmpty = decide (n1 = 0) := by
    rw [← hl1len]
    cases valuesL l nTE with
    | nil => rfl
    | cons x r => simp
  have hr1 := res_keep (heap_alloc_new w _) hb1
  have hl1 := (hl.step hal).step hb1
  have hbA := bnext hal hb1 hal.size
  clear hal hb1 hS1 hl1len
  go_wp2_with fail
  refine (valuesR_own A n c l nCL w1 hl1 (by omega) hls.ok (by decide)).mono ?_
  rintro e w2 ⟨A2, n2, c2, rfl, hS, hb2⟩
  have hr2 := res_keep hr1 hb2
  have hl2 := hl1.step hb2
  have hbB := bnext hbA hb2 hbA.size
  have hrd := hS.rd
  clear hr1 hl1 hbA hb2 hS
  have hlen := hrd.1
  obtain ⟨c0, c1', f0, f1⟩ := res_facts hr2
  have hn2b : n2 ≤ 1048576 := by have := HVn.out; omega
  have hn2e : (valuesL l nCL).isEmpty = decide (n2 = 0) := by
    rw [← hlen]
    cases valuesL l nCL with
    | nil => rfl
    | cons x r => simp
  clear hlen
  cases hte : (valuesL l nTE).isEmpty
  · have hn1 : (0 : Int) < (n1 : Int) := by rw [hte] at hn1e; simp at hn1e; omega
    cases hcl : (valuesL l nCL).isEmpty
    · have HR := Lib.hid (HC1.out hte hcl)
      have hn2 : (0 : Int) < (n2 : Int) := by rw [hcl] at hn2e; simp at hn2e; omega
      clear hcl hte hn2e hn1e
      go_wp2
      refine bodyPost_ret (v := bodyV (0, 0, 61)) (by simp [results, Tryd.results29, go_sem, c0, c1', bodyV]) rfl ⟨by rw [HR.out], (hbB.setCell (by simp) _).setCell (by simp) _⟩
    · have hn2 : n2 = 0 := by rw [hcl] at hn2e; simpa using hn2e.symm
      subst hn2
      have H2 := Lib.hid (HC2.out hte hcl)
      have H3 := Lib.hid (HC3.out hte hcl)
      clear hcl hte hn2e hn1e c0 c1' f0 f1 hrd
      go_wp2_with fail
      refine (tokensR_own A n c l nTE w2 hl2 hn hls (by decide)).mono ?_
      rintro e w3 ⟨A3, n3, c3, rfl, hT, hb3⟩
      have hr3 := res_keep hr2 hb3
      have hbC := bnext hbB hb3 hbB.size
      have hrT := hT.rd
      obtain ⟨c0, c1', f0, f1⟩ := res_facts hr3
      have hTlen := hrT.1
      have HW : Hid (wCh = [99, 104, 117, 110, 107, 101, 100]) := Lib.hid rfl
      clear hT hb3 hr2 hr3 hbB hl2
      by_cases hm : minor = 0
      · subst hm
        have HR := Lib.hid (H2.out (by simp))
        go_wp2
        refine bodyPost_ret (v := bodyV (0, 0, 62)) (by simp [results, Tryd.results29, go_sem, c0, c1', bodyV]) rfl ⟨by rw [HR.out], (hbC.setCell (by simp) _).setCell (by simp) _⟩
      · have hm2 : (minor == 0) = false := by simp [hm]
        by_cases h1 : n3 = 1
        · subst h1
          obtain ⟨g, o, x, rfl, hg, HX, hcx⟩ := hrT.at_ (k := 0) (by omega)
          rw [Nat.add_zero] at hcx
          have HT1 : Hid (tokensL l nTE = [x]) := Lib.hid (by
            have hx := HX.out
            generalize tokensL l nTE = T at *
            match T, hTlen, hx with
            | [y], _, h => simp at h; rw [h])
          by_cases hxw : x = [99, 104, 117, 110, 107, 101, 100]
          · have HR := Lib.hid (H3.out (by rw [HT1.out, HW.out, hxw, hm2]; rfl))
            subst hxw
            go_wp2
            refine bodyPost_ret (v := bodyV (2, 0, 0)) (by simp [results, Tryd.results29, go_sem, c0, c1', bodyV]) rfl ⟨by rw [HR.out], (hbC.setCell (by simp) _).setCell (by simp) _⟩
          · have HR := Lib.hid (H2.out (by rw [HT1.out, HW.out]; simp [hxw]))
            have hne : (!(x == [99, 104, 117, 110, 107, 101, 100])) = true := by simp [hxw]
            go_wp2
            refine bodyPost_ret (v := bodyV (0, 0, 62)) (by simp [results, Tryd.results29, go_sem, c0, c1', bodyV]) rfl ⟨by rw [HR.out], (hbC.setCell (by simp) _).setCell (by simp) _⟩
        · have HR := Lib.hid (H2.out (by
            have : (tokensL l nTE == [wCh]) = false := by
              rw [beq_eq_false_iff_ne]; intro e; rw [e] at hTlen; simp at hTlen; omega
            rw [this]; simp))
          have hne : ((n3 : Int) != 1) = true := by simp; omega
          go_wp2
          refine bodyPost_ret (v := bodyV (0, 0, 62)) (by simp [results, Tryd.results29, go_sem, c0, c1', bodyV]) rfl ⟨by rw [HR.out], (hbC.setCell (by simp) _).setCell (by simp) _⟩
  · have hn1 : n1 = 0 := by rw [hte] at hn1e; simpa using hn1e.symm
    subst hn1
    cases hcl : (valuesL l nCL).isEmpty
    · have H5 := Lib.hid (HC5.out hte hcl)
      have hn2 : ¬ n2 = 0 := by rw [hcl] at hn2e; simpa using hn2e.symm
      clear hcl hte hn2e hn1e c0 c1' f0 f1
      have HEl := Lib.hid (elems_le (valuesL l nCL) n2 HVe.out)
      have HVt : Hid ((valuesL l nCL).take n2 = valuesL l nCL) := Lib.hid (List.take_of_length_le (by rw [hrd.1]; exact Nat.le_refl _))
      generalize valuesL l nCL = V at *
      have HEl2 : Hid (∀ k, (elemsV (V.take k)).length ≤ k * 1048577) := Lib.hid fun k => elems_le V k HVe.out
      have hn2i : ((n2 : Int) == 0) = false := by rw [beq_eq_false_iff_ne]; omega
      clear hn2
      go_upto_region 13 with fail
      have hm := OwnS.made w2
      have hal := alloc_below w2 (.cells #[] 9)
      have hrd2 := hrd.step hal
      go_wp2
      go_loopw [9, 10] (fun v t wr => ∃ (k : Nat) (A' : Option Addr) (n' c' : Nat), k ≤ n2 ∧ t = .int .i64 k ∧ v = .slice A' n' c' ∧ OwnS wr w2.heap.size (.slice A' n' c') (elemsV (V.take k)) ∧ Below w2.heap.size w2 wr) (fun _ t _ => n2 - (intOf t).toNat)
      case atStart => exact ⟨0, _, _, _, by omega, rfl, rfl, hm, hal⟩
      case round =>
        obtain ⟨k, A', n', c', hk, rfl, rfl, hown, hbr⟩ := hrel
        clear hm hal hrd2
        by_cases hlt : k < n2
        · obtain ⟨g, o, x, rfl, hg, HX, hcx⟩ := (hrd.step hbr).at_ hlt
          have hxl : x.length ≤ 1048576 := HVe.out x (mem_of_get? HX.out)
          have HS := Lib.hid (elemsV_snoc HX.out)
          have HLk := Lib.hid (HEl2.out k)
          have HXl := Lib.hid (list_len x)
          clear hrd
          go_wp2_with fail
          refine (listR_own x _ (by omega)).mono ?_
          rintro e w4 ⟨A4, n4, c4, rfl, hL, hb4⟩
          have hrL := hL.rd
          have hown4 := hown.step hb4
          have hbr4 := bnext hbr hb4 hbr.size
          have hn4 : n4 ≤ 1048577 := by have := HXl.out; rw [hrL.1] at this; omega
          clear hL hown hbr hb4
          go_wp2_with
            (at_builtin
             refine wp_appS rfl (.tmp 54) (.tmp 59) rfl w2.heap.size (.slice A' n' c') _ rfl hown4 A4 n4 c4 (listL x) rfl hrL ?hby ?hbase ?_
             case hby =>
               have h1 := HLk.out
               have h2 : k * 1048577 ≤ 1048576 * 1048577 := Nat.mul_le_mul_right _ (by omega)
               omega
             case hbase => exact hbr4.size
             intro A5 n5 c5 w5 hown5 hb5 hn5)
          go_roundw
          case rel => exact ⟨k + 1, A5, n5, c5, by omega, by go_num, rfl, by rw [HS.out]; exact hown5, hbr4.trans hb5⟩
          case measure => simp [intOf]; omega
        · obtain rfl : k = n2 := by omega
          rw [HVt.out] at hown
          have hE := hown.rd
          have hr5 := res_keep hr2 hbr
          obtain ⟨c0, c1', f0, f1⟩ := res_facts hr5
          have hbE := bnext hbB hbr hbB.size
          have H5b := Lib.hid (H5.out (elemsV V) rfl)
          have HEl3 := HEl2.out k
          rw [HVt.out] at HEl3
          have HEl4 := Lib.hid HEl3
          clear HEl3 HEl2 HEl HVe HVt HVn HTl HC1 HC2 HC3 HC4 HC5 H5 hown hrd hr2 hbB hbr hl hl2
          generalize elemsV V = E at *
          have hlenE := hE.1
          have hnE : n' ≤ 1099512676352 := by
            have h1 := HEl4.out
            have h2 : k * 1048577 ≤ 1048576 * 1048577 := Nat.mul_le_mul_right _ (by omega)
            omega
          by_cases hn0 : n' = 0
          · subst hn0
            have HR := Lib.hid (H5b.out 0 60 (by rw [List.eq_nil_of_length_eq_zero hlenE]; rfl))
            have HR2 : Hid (R = bodyV (0, 0, 60)) := Lib.hid (by rw [HR.out]; rfl)
            go_wp2
            refine bodyPost_ret (v := bodyV (0, 0, 60)) (by simp [results, Tryd.results29, go_sem, c0, c1', bodyV]) rfl ⟨by rw [HR2.out], (hbE.setCell (by simp) _).setCell (by simp) _⟩
          · obtain ⟨g, o, x0, rfl, hg0, HX0, hcx0⟩ := hE.at_ (k := 0) (by omega)
            rw [Nat.add_zero] at hcx0
            obtain ⟨wo, rfl⟩ : ∃ wo, wo = wr := ⟨_, rfl⟩
            have HB : Hid (∀ (j : Nat) y, E[j]? = some y → numL y < 0 → R = bodyV (0, 0, 60)) := Lib.hid fun j y h hb => by
              rw [H5b.out 0 60 (lenL_bad (mem_of_get? h) hb)]; rfl
            have HU : Hid (∀ (j : Nat) y, E[j]? = some y → numL y ≠ numL x0 → R = bodyV (0, 0, 60)) := Lib.hid fun j y h hb => by
              rw [H5b.out 0 60 (lenL_unlike (mem_of_get? h) (mem_of_get? HX0.out) hb)]; rfl
            have HS : Hid ((∀ (j : Nat) y, j < n' → E[j]? = some y → 0 ≤ numL y ∧ numL y = numL x0) → R = if numL x0 > 65536 then bodyV (0, 0, 71) else bodyV (1, numL x0, 0)) := Lib.hid fun ha => by
              have hl := lenL_same HX0.out (fun j y h => ha j y (by have := lt_of_get? h; omega) h)
              split at hl
              · rename_i hgt; rw [if_pos hgt, H5b.out 0 71 hl]; rfl
              · rename_i hgt; rw [if_neg hgt, H5b.out _ 0 hl]; rfl
            have hnE2 : ((n' : Int) == 0) = false := by rw [beq_eq_false_iff_ne]; omega
            have hpos : 0 < n' := by omega
            clear H5b hn0 HEl4 hlenE c0 c1' f0 f1
            go_wp2
            go_loopw [11] (fun t wr => ∃ (j : Nat), j ≤ n' ∧ t = .int .i64 j ∧ Hid (∀ (i : Nat) y, i < j → E[i]? = some y → 0 ≤ numL y ∧ numL y = numL x0) ∧ RdS wr (some ⟨g, o, none⟩) n' E ∧ wr.heap[w.heap.size]? = some (.cells #[.int .i64 0, .int .i64 0] 31 (0, 0)) ∧ Below w.heap.size w wr) (fun t _ => n' - (intOf t).toNat)
            case atStart => exact ⟨0, by omega, rfl, Lib.hid fun i y h => by omega, hE, hr5, hbE⟩
            case round =>
              obtain ⟨j, hj, rfl, HA, hE, hr5, hbE⟩ := hrel
              obtain ⟨c0, c1', f0, f1⟩ := res_facts hr5
              obtain ⟨g8, o8, z0, e8, hg8, HZ0, hcz0⟩ := hE.at_ (k := 0) hpos
              cases e8
              have hzx : z0 = x0 := by have h1 := HZ0.out; rw [HX0.out] at h1; exact (Option.some.inj h1).symm
              rw [Nat.add_zero, hzx] at hcz0
              clear hzx HZ0
              clear hcx0
              by_cases hlj : j < n'
              · obtain ⟨g9, o9, y, e9, hg9, HY, hd1⟩ := hE.at_ hlj
                cases e9
                by_cases hneg : numL y < 0
                · have HR := Lib.hid (HB.out j y HY.out hneg)
                  have hd : decide (numL y < 0) = true := by simpa using hneg
                  go_wp2
                  go_quiet ((go_at_call 41; exact Calls.quiet_of_same (numR_same _ _)))
                  go_wp2
                  refine bodyPost_ret (v := bodyV (0, 0, 60)) (by simp [results, Tryd.results29, go_sem, c0, c1', bodyV]) rfl ⟨by rw [HR.out], ((below_drewN hbE _).setCell (by simp) _).setCell (by simp) _⟩
                · have hd : decide (numL y < 0) = false := by simpa using hneg
                  by_cases heq : numL y = numL x0
                  · have HN : Hid (∀ (i : Nat) z, i < j + 1 → E[i]? = some z → 0 ≤ numL z ∧ numL z = numL x0) := Lib.hid fun i z hi hz => by
                      by_cases h : i < j
                      · exact HA.out i z h hz
                      · obtain rfl : i = j := by omega
                        rw [HY.out] at hz; cases hz; exact ⟨by omega, heq⟩
                    have hne : (numL y != numL x0) = false := by simp [heq]
                    clear heq
                    go_wp2
                    go_quiet ((go_at_call 41; exact Calls.quiet_of_same (numR_same _ _)))
                    go_wp2
                    go_roundw
                    case rel => exact ⟨j + 1, by omega, by go_num, HN, hE.step (below_drewN (Below.refl _ _) _), hr5, below_drewN hbE _⟩
                    case measure => simp [intOf]; omega
                  · have HR := Lib.hid (HU.out j y HY.out heq)
                    have hne : (numL y != numL x0) = true := by simp [heq]
                    go_wp2
                    go_quiet ((go_at_call 41; exact Calls.quiet_of_same (numR_same _ _)))
                    go_wp2
                    refine bodyPost_ret (v := bodyV (0, 0, 60)) (by simp [results, Tryd.results29, go_sem, c0, c1', bodyV]) rfl ⟨by rw [HR.out], ((below_drewN hbE _).setCell (by simp) _).setCell (by simp) _⟩
              · obtain rfl : j = n' := by omega
                have HR := Lib.hid (HS.out HA.out)
                by_cases hgt : numL x0 > 65536
                · have HR2 : Hid (R = bodyV (0, 0, 71)) := Lib.hid (by rw [HR.out, if_pos hgt])
                  go_wp2_with (go_at_call 41; refine (numR_any _ _).mono ?_; rintro e w9 ⟨rfl, rfl⟩)
                  refine bodyPost_ret (v := bodyV (0, 0, 71)) (by simp [results, Tryd.results29, go_sem, c0, c1', bodyV]) rfl ⟨by rw [HR2.out], (hbE.setCell (by simp) _).setCell (by simp) _⟩
                · have HR2 : Hid (R = bodyV (1, numL x0, 0)) := Lib.hid (by rw [HR.out, if_neg hgt])
                  go_wp2_with (go_at_call 41; refine (numR_any _ _).mono ?_; rintro e w9 ⟨rfl, rfl⟩)
                  refine bodyPost_ret (v := bodyV (1, numL x0, 0)) (by simp [results, Tryd.results29, go_sem, c0, c1', bodyV]) rfl ⟨by rw [HR2.out], (hbE.setCell (by simp) _).setCell (by simp) _⟩
    · have hn2 : n2 = 0 := by rw [hcl] at hn2e; simpa using hn2e.symm
      subst hn2
      have HR := Lib.hid (HC4.out hte hcl)
      clear hcl hte hn2e hn1e
      go_wp2
      refine bodyPost_ret (v := bodyV (0, 0, 0)) (by simp [results, Tryd.results29, go_sem, c0, c1', bodyV]) rfl ⟨by rw [HR.out], (hbB.setCell (by simp) _).setCell (by simp) _⟩
end Go.Proofs.YtocgnjkikgcjdaaDoor
