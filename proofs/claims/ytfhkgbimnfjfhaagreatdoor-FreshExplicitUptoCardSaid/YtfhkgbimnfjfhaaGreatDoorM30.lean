/- Joined texts: The reference's directives: the names and arguments of Cache-Control. The conditions stand in each line. -/
import Derived.Test.YtfhkgbimnfjfhaaGreatDoorM10
import Derived.Test.YtfhkgbimnfjfhaaGreatDoorM11
import Derived.Test.YtfhkgbimnfjfhaaGreatDoorM15
import Derived.Test.YtfhkgbimnfjfhaaGreatDoorM23
import Derived.Test.YtfhkgbimnfjfhaaGreatDoorM29
set_option linter.unusedVariables false
set_option linter.unusedSimpArgs false
namespace Go.Proofs.YtfhkgbimnfjfhaaGreatDoor
open Go.RowKit

set_option maxRecDepth 100000
theorem cut_facts (y : List UInt8) : (Ur.cutA 61 y).length ≤ y.length ∧ y.take (Ur.cutA 61 y).length = Ur.cutA 61 y ∧ (∀ (i : Nat) (b : UInt8), i < (Ur.cutA 61 y).length → y[i]? = some b → b ≠ 61) ∧
    (Ur.hasC 61 y = false → (Ur.cutA 61 y).length = y.length) ∧ (Ur.hasC 61 y = true → (Ur.cutA 61 y).length < y.length ∧ y[(Ur.cutA 61 y).length]? = some 61 ∧ y.drop ((Ur.cutA 61 y).length + 1) = Ur.cutB 61 y) := by
  have h0 := Ur.cut_app 61 y
  have hpre : ∀ i, i < (Ur.cutA 61 y).length → y[i]? = (Ur.cutA 61 y)[i]? := fun i hi => by
    conv => lhs; rw [← h0]
    rw [List.getElem?_append_left hi]
  refine ⟨Ur.cutA_le 61 y, ?_, fun i b hi hb => ?_, fun h => by rw [Ur.cutA_no h], fun h => ?_⟩
  · conv => lhs; arg 2; rw [← h0]
    rw [List.take_left]
  · rw [hpre i hi] at hb
    have hm : b ∈ Ur.cutA 61 y := List.mem_of_getElem? hb
    unfold Ur.cutA at hm
    have := List.all_takeWhile (l := y) (p := fun b => b != 61)
    have := List.all_eq_true.1 this b hm
    simpa using this
  · have hr := Ur.cut_yes h
    have hl : y.length = (Ur.cutA 61 y).length + (Ur.cutB 61 y).length + 1 := by
      conv => lhs; rw [← h0, hr]
      simp; omega
    have e : y = (Ur.cutA 61 y ++ [61]) ++ Ur.cutB 61 y := by
      conv => lhs; rw [← h0, hr]
      simp
    clear h0 hpre hr
    generalize Ur.cutA 61 y = A at *
    generalize Ur.cutB 61 y = B at *
    refine ⟨by omega, ?_, ?_⟩
    · rw [e]; simp
    · rw [e]; exact List.drop_left' (by simp)
theorem row_facts3d {w : World} {v0 v1 v2 : Value} {t : TypeId} {B : Nat} (h : w.heap[B]? = some (.cells #[v0, v1, v2] t (0, 0))) :
    w.cell? ⟨B, 0, none⟩ = some v0 ∧ w.cell? ⟨B, 1, none⟩ = some v1 ∧ w.cell? ⟨B, 2, none⟩ = some v2 ∧ w.frozen? ⟨B, 0, none⟩ = false ∧ w.frozen? ⟨B, 1, none⟩ = false ∧ w.frozen? ⟨B, 2, none⟩ = false := by
  refine ⟨?_, ?_, ?_, ?_, ?_, ?_⟩
  iterate 3 (rw [cell_of_row _ _ _ _ _ _ h]; rfl)
  all_goals (simp only [World.frozen?, h]; rfl)
theorem row_set3d {w : World} {z0 z1 z2 v0 v1 v2 : Value} {t : TypeId} {b : Nat} (h : w.heap[b]? = some (.cells #[z0, z1, z2] t (0, 0))) :
    (((w.setCell ⟨b, 0, none⟩ v0).setCell ⟨b, 1, none⟩ v1).setCell ⟨b, 2, none⟩ v2).heap[b]? = some (.cells #[v0, v1, v2] t (0, 0)) := by
  have h0 : (w.setCell ⟨b, 0, none⟩ v0).heap[b]? = some (.cells #[v0, z1, z2] t (0, 0)) := by simpa using DA.heap_set h 0 v0
  have h1 : ((w.setCell ⟨b, 0, none⟩ v0).setCell ⟨b, 1, none⟩ v1).heap[b]? = some (.cells #[v0, v1, z2] t (0, 0)) := by simpa using DA.heap_set h0 1 v1
  simpa using DA.heap_set h1 2 v2
theorem row_set1d {w : World} {z0 z1 z2 v : Value} {t : TypeId} {b : Nat} (h : w.heap[b]? = some (.cells #[z0, z1, z2] t (0, 0))) :
    (w.setCell ⟨b, 1, none⟩ v).heap[b]? = some (.cells #[z0, v, z2] t (0, 0)) := by simpa using DA.heap_set h 1 v
set_option maxHeartbeats 2000000 in
theorem directives_own (A : Option Addr) (n c : Nat) (l : List Fld) (w : World) (hl : RdF w A n l) (hn : n ≤ 1048576) (hls : FlenS l) :
    Calls Tryz.prog 52 #[.slice A n c] w fun e w' => ∃ A' n' c', e = .returned (.slice A' n' c') ∧ OwnD w' w.heap.size (.slice A' n' c') (Ctl.dirsV (valuesL l Ctl.ccN)) ∧ Below w.heap.size w w' := by
  have HV : Hid (∀ v ∈ valuesL l Ctl.ccN, v.length ≤ 1048576) := Lib.hid fun v hv => values_each hls hv
  have HVl : Hid ((valuesL l Ctl.ccN).length ≤ l.length) := Lib.hid (values_le l Ctl.ccN)
  have HF : Hid (∀ V, V = valuesL l Ctl.ccN → Ctl.dirsV V = Ctl.dirsV (valuesL l Ctl.ccN)) := Lib.hid (fun V h => by rw [h])
  have hln := hl.1
  generalize hRR : Ctl.dirsV (valuesL l Ctl.ccN) = RR at *
  clear hRR
  go_enter Tryz.func52, Tryz.ntmps52
  go_upto_region 2 with fail
  have hm0 := OwnD.made w
  have hbm0 := alloc_below w (.cells #[] 85)
  go_wp2_with fail
  refine (valuesR_own A n c l Ctl.ccN _ (hl.step hbm0) (by omega) hls.ok (by simp)).mono ?_
  rintro e w1 ⟨A1, n1, c1, rfl, hS, hb1⟩
  have hrd := hS.rd
  have hsv := sep_ofD hm0 hS
  clear hS hl hls
  generalize valuesL l Ctl.ccN = V at *
  have hm := (hm0.step hb1).mono (Nat.le_refl w.heap.size)
  have hb2 := bnext hbm0 hb1 hbm0.size
  clear hm0 hbm0 hb1
  have HF2 : Hid (Ctl.dirsV (V.take n1) = RR) := Lib.hid (by rw [List.take_of_length_le (by rw [hrd.1]; exact Nat.le_refl _)]; exact HF.out V rfl)
  have hnl : n1 ≤ 1048576 := by have := HVl.out; rw [hrd.1] at this; omega
  clear HF HVl
  go_wp2
  go_loopw [3, 5] (fun v t wr => ∃ (k : Nat) (A' : Option Addr) (n' c' : Nat), k ≤ n1 ∧ t = .int .i64 k ∧ v = .slice A' n' c' ∧ OwnD wr w.heap.size (.slice A' n' c') (Ctl.dirsV (V.take k)) ∧ RdS wr A1 n1 V ∧ Sep (.slice A' n' c') A1 n1 ∧ Below w.heap.size w wr) (fun _ t _ => n1 - (intOf t).toNat)
  case atStart => exact ⟨0, _, _, _, by omega, rfl, rfl, hm, hrd, hsv, hb2⟩
  case round =>
    obtain ⟨k, A', n', c', hk, rfl, rfl, hown, hrd, hsv, hbr⟩ := hrel
    clear hm hb2
    by_cases hlt : k < n1
    · obtain ⟨g, o, x, rfl, hg, HX, hc1⟩ := hrd.at_ hlt
      have HS := Lib.hid (Ctl.dirsV_snoc HX.out)
      have hxl : x.length ≤ 1048576 := HV.out x (mem_of_get? HX.out)
      have HK : Hid ((Ctl.dirsV (V.take k)).length ≤ k * 1048577) := Lib.hid (Ctl.dirsV_le V k HV.out)
      have HE : Hid (∀ (j : Nat) y, (listL x)[j]? = some y → y.length ≤ x.length) := Lib.hid fun j y h => list_each x (mem_of_get? h)
      have HEl := Lib.hid (list_len x)
      go_wp2_with fail
      refine (listR_own x _ (by omega)).mono ?_
      rintro e wl ⟨A2, n2, c2, rfl, hE, hbl⟩
      have hown2 := hown.step hbl
      have hsep := sep_ofD hown hE
      have hEr := hE.rd
      have hbl2 := bnext hbr hbl hbr.size
      have hrd2 := hrd.step hbl
      clear hE
      generalize listL x = E at *
      have hn2 : n2 ≤ 1048577 := by have := HEl.out; rw [hEr.1] at this; omega
      have HT : Hid ((E.take n2).map Ctl.dirOf = E.map Ctl.dirOf) := Lib.hid (by rw [List.take_of_length_le (by rw [hEr.1]; exact Nat.le_refl _)])
      clear hbl hown hbr hrd HF2 hc1
      obtain ⟨wo, rfl⟩ : ∃ wo, wo = wr := ⟨_, rfl⟩
      go_wp2
      go_loopw [3, 7] (fun v t wr => ∃ (j : Nat) (A' : Option Addr) (n' c' : Nat), j ≤ n2 ∧ t = .int .i64 j ∧ v = .slice A' n' c' ∧ OwnD wr w.heap.size (.slice A' n' c') (Ctl.dirsV (V.take k) ++ (E.take j).map Ctl.dirOf) ∧ RdS wr A2 n2 E ∧ Sep (.slice A' n' c') A2 n2 ∧ RdS wr (some ⟨g, o, none⟩) n1 V ∧ Sep (.slice A' n' c') (some ⟨g, o, none⟩) n1 ∧ Below w.heap.size w wr) (fun _ t _ => n2 - (intOf t).toNat)
      case atStart => exact ⟨0, _, _, _, by omega, rfl, rfl, by simpa using hown2, hEr, hsep, hrd2, hsv, hbl2⟩
      case round =>
        obtain ⟨j, A', n', c', hj, rfl, rfl, hown, hEr, hsep, hrd, hsv, hbr⟩ := hrel
        by_cases hlj : j < n2
        · obtain ⟨g2, o2, y, rfl, hg2, HY, hd1⟩ := hEr.at_ hlj
          have hyl : y.length ≤ 1048576 := by have := HE.out j y HY.out; omega
          have HM := Lib.hid (Ctl.dir_snoc HY.out)
          have HJ : Hid ((Ctl.dirsV (V.take k) ++ (E.take j).map Ctl.dirOf).length ≤ 1048576 * 1048577 + 1048577) := Lib.hid (by
            rw [List.length_append, List.length_map, List.length_take]
            have := HK.out
            have h2 : k * 1048577 ≤ 1048576 * 1048577 := Nat.mul_le_mul_right _ (by omega)
            omega)
          obtain ⟨ck, ht, hne, hno, hye⟩ := cut_facts y
          have HNE := Lib.hid hne
          have HNO := Lib.hid hno
          have HYE := Lib.hid hye
          have HTK := Lib.hid ht
          clear hne hno hye ht hown2 hrd2 hbl2
          obtain ⟨wi, rfl⟩ : ∃ wi, wi = wr := ⟨_, rfl⟩
          go_wp2
          go_loop [8] (fun t => ∃ i : Nat, i ≤ (Ur.cutA 61 y).length ∧ t = .int .i64 i) (fun t => (Ur.cutA 61 y).length - (intOf t).toNat)
          case atStart => exact ⟨0, by omega, rfl⟩
          case round =>
            obtain ⟨i, hi, rfl⟩ := hrel
            by_cases hik : i < (Ur.cutA 61 y).length
            · have hil : i < y.length := by omega
              have ec := u8nek (HNE.out i y[i] hik (List.getElem?_eq_getElem hil)) 61 rfl
              go_wp2
              go_round
              case rel => exact ⟨i + 1, by omega, by go_num⟩
              case measure => simp [intOf]; omega
            · obtain rfl : i = (Ur.cutA 61 y).length := by omega
              clear hi hik
              cases hh : Ur.hasC 61 y with
              | false =>
                have hK := HNO.out hh
                have htk := HTK.out
                go_upto_region 13 with fail
                let b9 : DA.Box := ⟨9, 15, 16, #[.string ⟨#[]⟩, .string ⟨#[]⟩, .bool false], #[.string (bs (fold (Ur.cutA 61 y))), .string ⟨#[]⟩, .bool false], 85⟩
                refine DA.wp_region (n := 17) (V := DA.VK [some (.slice (some ⟨g2, o2, none⟩) n2 c2), some (.int .i64 (j : Int)), some (.pointer (some ⟨g2, o2 + j, none⟩)), some (.string (bs y)), some (.int .i64 ((Ur.cutA 61 y).length : Int)), some (.string (bs (Ur.cutA 61 y))), some (.string (bs (fold (Ur.cutA 61 y)))), some (.int .i64 ((Ur.cutA 61 y).length : Int)), some (.slice (some ⟨g2, o2, none⟩) n2 c2), some (.int .i64 (j : Int)), some (.pointer (some ⟨g2, o2 + j, none⟩)), some (.string (bs y)), some (.int .i64 (y.length : Int)), some (.bool false), some (.agg #[.string (bs (fold (Ur.cutA 61 y))), .string ⟨#[]⟩, .bool false]), none, some undef]) (S := DA.SB wi 94 [b9]) (by kernel_rfl) rfl (DA.SB.start rfl) ?_
                refine' DA.Det.takeE (i := 0) (v := _) rfl (fun _ => Iff.rfl) (by kernel_rfl) (by kernel_rfl) (by kernel_rfl) (DA.YS.pure rfl rfl ?rpn0 ?spn0) ?npn0
                case rpn0 => intro a' L W hS; go_simp; first | rfl | exact congrArg bs (Ur.cutA_no hh).symm | trace_state
                case spn0 => exact fun a' L W _ h => h.other (by simp [b9]) (Below.refl _ _)
                try simp only [Act.put, List.setIfInBounds_toArray, List.set_cons_zero, List.set_cons_succ]
                refine' DA.Det.takeE (i := 1) (v := _) rfl (fun _ => Iff.rfl) (by kernel_rfl) (by kernel_rfl) (by kernel_rfl) (DA.YS.pure rfl rfl ?rpn1 ?spn1) ?npn1
                case rpn1 => intro a' L W hS; go_simp; first | rfl | exact congrArg bs (Ur.cutA_no hh).symm | trace_state
                case spn1 => exact fun a' L W _ h => h.other (by simp [b9]) (Below.refl _ _)
                try simp only [Act.put, List.setIfInBounds_toArray, List.set_cons_zero, List.set_cons_succ]
                refine' DA.Det.takeE (i := 2) (v := _) rfl (fun _ => Iff.rfl) (by kernel_rfl) (by kernel_rfl) (by kernel_rfl) (DA.YS.pure rfl rfl ?rpn2 ?spn2) ?npn2
                case rpn2 => intro a' L W hS; go_simp; first | rfl | exact congrArg bs (Ur.cutA_no hh).symm | trace_state
                case spn2 => exact fun a' L W _ h => h.other (by simp [b9]) (Below.refl _ _)
                try simp only [Act.put, List.setIfInBounds_toArray, List.set_cons_zero, List.set_cons_succ]
                refine' DA.Det.takeE (i := 3) (v := _) rfl (fun _ => Iff.rfl) (by kernel_rfl) (by kernel_rfl) (by kernel_rfl) (DA.YS.pure rfl rfl ?rpn3 ?spn3) ?npn3
                case rpn3 => intro a' L W hS; have q3 := ((hS.1.cell (p := ⟨g2, o2 + j, none⟩) hg2).trans hd1); go_simp; first | rfl | exact congrArg bs (Ur.cutA_no hh).symm | trace_state
                case spn3 => exact fun a' L W _ h => h.other (by simp [b9]) (Below.refl _ _)
                try simp only [Act.put, List.setIfInBounds_toArray, List.set_cons_zero, List.set_cons_succ]
                refine' DA.Det.takeE (i := 4) (v := _) rfl (fun _ => Iff.rfl) (by kernel_rfl) (by kernel_rfl) (by kernel_rfl) (DA.YS.pure rfl rfl ?rpn4 ?spn4) ?npn4
                case rpn4 => intro a' L W hS; go_simp; first | rfl | exact congrArg bs (Ur.cutA_no hh).symm | trace_state
                case spn4 => exact fun a' L W _ h => h.other (by simp [b9]) (Below.refl _ _)
                try simp only [Act.put, List.setIfInBounds_toArray, List.set_cons_zero, List.set_cons_succ]
                refine' DA.Det.takeE (i := 5) (v := _) rfl (fun _ => Iff.rfl) (by kernel_rfl) (by kernel_rfl) (by kernel_rfl) (DA.YS.pure rfl rfl ?rpn5 ?spn5) ?npn5
                case rpn5 => intro a' L W hS; go_simp; first | rfl | exact congrArg bs (Ur.cutA_no hh).symm | trace_state
                case spn5 => exact fun a' L W _ h => h.other (by simp [b9]) (Below.refl _ _)
                try simp only [Act.put, List.setIfInBounds_toArray, List.set_cons_zero, List.set_cons_succ]
                refine' DA.Det.takeE (i := 6) (v := _) rfl (fun _ => Iff.rfl) (by kernel_rfl) (by kernel_rfl) (by kernel_rfl) (DA.YS.call (f := _) (args := _) rfl ?rpn6 ?cpn6) ?npn6
                case rpn6 => intro W; go_simp; constructor <;> rfl
                case cpn6 =>
                  intro a' L W hL hS
                  refine (lower_any (Ur.cutA 61 y) W (by omega)).mono ?_
                  rintro e w9 ⟨rfl, hb9⟩
                  exact ⟨_, rfl, rfl, hS.other (by simp [b9]) hb9⟩
                try simp only [Act.put, List.setIfInBounds_toArray, List.set_cons_zero, List.set_cons_succ]
                refine' DA.Det.takeE (i := 7) (v := _) rfl (fun _ => Iff.rfl) (by kernel_rfl) (by kernel_rfl) (by kernel_rfl) (DA.YS.pure rfl rfl ?rpn7 ?spn7) ?npn7
                case rpn7 => intro a' L W hS; go_simp; first | rfl | exact congrArg bs (Ur.cutA_no hh).symm | trace_state
                case spn7 => exact fun a' L W _ h => h.other (by simp [b9]) (Below.refl _ _)
                try simp only [Act.put, List.setIfInBounds_toArray, List.set_cons_zero, List.set_cons_succ]
                refine' DA.Det.takeE (i := 8) (v := _) rfl (fun _ => Iff.rfl) (by kernel_rfl) (by kernel_rfl) (by kernel_rfl) (DA.YS.pure rfl rfl ?rpn8 ?spn8) ?npn8
                case rpn8 => intro a' L W hS; go_simp; first | rfl | exact congrArg bs (Ur.cutA_no hh).symm | trace_state
                case spn8 => exact fun a' L W _ h => h.other (by simp [b9]) (Below.refl _ _)
                try simp only [Act.put, List.setIfInBounds_toArray, List.set_cons_zero, List.set_cons_succ]
                refine' DA.Det.takeE (i := 9) (v := _) rfl (fun _ => Iff.rfl) (by kernel_rfl) (by kernel_rfl) (by kernel_rfl) (DA.YS.pure rfl rfl ?rpn9 ?spn9) ?npn9
                case rpn9 => intro a' L W hS; go_simp; first | rfl | exact congrArg bs (Ur.cutA_no hh).symm | trace_state
                case spn9 => exact fun a' L W _ h => h.other (by simp [b9]) (Below.refl _ _)
                try simp only [Act.put, List.setIfInBounds_toArray, List.set_cons_zero, List.set_cons_succ]
                refine' DA.Det.takeE (i := 10) (v := _) rfl (fun _ => Iff.rfl) (by kernel_rfl) (by kernel_rfl) (by kernel_rfl) (DA.YS.pure rfl rfl ?rpn10 ?spn10) ?npn10
                case rpn10 => intro a' L W hS; go_simp; first | rfl | exact congrArg bs (Ur.cutA_no hh).symm | trace_state
                case spn10 => exact fun a' L W _ h => h.other (by simp [b9]) (Below.refl _ _)
                try simp only [Act.put, List.setIfInBounds_toArray, List.set_cons_zero, List.set_cons_succ]
                refine' DA.Det.takeE (i := 11) (v := _) rfl (fun _ => Iff.rfl) (by kernel_rfl) (by kernel_rfl) (by kernel_rfl) (DA.YS.pure rfl rfl ?rpn11 ?spn11) ?npn11
                case rpn11 => intro a' L W hS; have q3 := ((hS.1.cell (p := ⟨g2, o2 + j, none⟩) hg2).trans hd1); go_simp; first | rfl | exact congrArg bs (Ur.cutA_no hh).symm | trace_state
                case spn11 => exact fun a' L W _ h => h.other (by simp [b9]) (Below.refl _ _)
                try simp only [Act.put, List.setIfInBounds_toArray, List.set_cons_zero, List.set_cons_succ]
                refine' DA.Det.takeE (i := 12) (v := _) rfl (fun _ => Iff.rfl) (by kernel_rfl) (by kernel_rfl) (by kernel_rfl) (DA.YS.pure rfl rfl ?rpn12 ?spn12) ?npn12
                case rpn12 => intro a' L W hS; go_simp; first | rfl | exact congrArg bs (Ur.cutA_no hh).symm | trace_state
                case spn12 => exact fun a' L W _ h => h.other (by simp [b9]) (Below.refl _ _)
                try simp only [Act.put, List.setIfInBounds_toArray, List.set_cons_zero, List.set_cons_succ]
                refine' DA.Det.takeE (i := 13) (v := _) rfl (fun _ => Iff.rfl) (by kernel_rfl) (by kernel_rfl) (by kernel_rfl) (DA.YS.pure rfl rfl ?rpn13 ?spn13) ?npn13
                case rpn13 => intro a' L W hS; go_simp; first | rfl | exact congrArg bs (Ur.cutA_no hh).symm | trace_state
                case spn13 => exact fun a' L W _ h => h.other (by simp [b9]) (Below.refl _ _)
                try simp only [Act.put, List.setIfInBounds_toArray, List.set_cons_zero, List.set_cons_succ]
                refine' DA.Det.takeE (i := 14) (v := _) rfl (fun _ => Iff.rfl) (by kernel_rfl) (by kernel_rfl) (by kernel_rfl) (DA.YS.pure rfl rfl ?rpn14 ?spn14) ?npn14
                case rpn14 => intro a' L W hS; go_simp; first | rfl | exact congrArg bs (Ur.cutA_no hh).symm | trace_state
                case spn14 => exact fun a' L W _ h => h.other (by simp [b9]) (Below.refl _ _)
                try simp only [Act.put, List.setIfInBounds_toArray, List.set_cons_zero, List.set_cons_succ]
                refine' DA.Det.takeL (i := 15) rfl ⟨_, 0, rfl⟩ (by kernel_rfl) (by kernel_rfl) (by kernel_rfl) (DA.YS.make (v := _) (f := _) rfl ?rpn15 ?spn15) ?npn15
                case rpn15 => intro W; go_simp; first | rfl | (constructor <;> rfl)
                case spn15 => exact fun a' L W hL hS => ⟨⟨_, rfl⟩, hS.make b9 (by simp [b9]) (by simp [b9]) hL (by simp [b9])⟩
                rintro v ⟨g9, rfl⟩
                try simp only [Act.put, List.setIfInBounds_toArray, List.set_cons_zero, List.set_cons_succ]
                refine' DA.Det.takeE (i := 16) (v := _) rfl (fun _ => Iff.rfl) (by kernel_rfl) (by kernel_rfl) (by kernel_rfl) (DA.YS.store (f := _) rfl rfl ?rpn16) ?npn16
                case rpn16 =>
                  intro a' L W he hL hd hS
                  have hip : L.getD 15 false = true := by have := hd ⟨15, .data⟩ (by simp) (by kernel_rfl); exact this
                  have hsl : a'.tmps[b9.p]? = some (.pointer (some ⟨g9, 0, none⟩)) := DA.slot_of (he (.tmp 9) (by simp [Op.operands]))
                  obtain ⟨r1, r2, r3⟩ := DA.SB.row b9 (by simp [b9]) hip hsl hS
                  rw [DA.getD_un hL, if_neg (by decide)] at r3
                  obtain ⟨q0, q1, q2, f0, f1, f2⟩ := row_facts3d r3
                  constructor
                  · go_simp
                    rfl
                  · refine DA.SB.store b9 (by simp [b9]) hip hsl (by simp [b9]) hL hS ?_ ?_ ?_ ?_
                    · repeat refine Below.setCell ?_ (by exact r1) _
                      exact hS.1
                    · simp only [DA.size_set]
                    · exact row_set3d r3
                    · intro k hk
                      simp only [DA.heap_rest hk]
                try simp only [Act.put, List.setIfInBounds_toArray, List.set_cons_zero, List.set_cons_succ]
                refine DA.Det.done (by kernel_rfl) (fun W hS => ?_) _
                obtain ⟨hgW, hgl, hrow⟩ := DA.SB.row b9 (by simp [b9]) (by kernel_rfl) (g := g9) rfl hS
                replace hrow : W.heap[g9]? = some (.cells #[.string (bs (fold (Ur.cutA 61 y))), .string ⟨#[]⟩, .bool false] 85 (0, 0)) := hrow
                have hbW : Below wi.heap.size wi W := hS.1
                clear hS
                clear b9
                have HD : Hid (Ctl.dirOf y = (fold (Ur.cutA 61 y), [], false)) := Lib.hid (by unfold Ctl.dirOf; rw [Ur.cutB_no hh, hh]; rfl)
                obtain ⟨q0, q1, q2, f0, f1, f2⟩ := row_facts3d hrow
                have hownF := hown.step hbW
                have hEF := hEr.step hbW
                have hrdF := hrd.step hbW
                have hbrF := bnext hbr hbW hbr.size
                clear hown hEr hrd hrow
                go_wp2_with
                  (at_builtin
                   refine wp_appD3 rfl (.tmp 89) (.tmp 91) rfl w.heap.size (.slice A' n' c') _ rfl (hownF.step (alloc_below _ _)) _ 1 1 [(fold (Ur.cutA 61 y), [], false)] rfl ?hr ?hby ?hbase (hEF.step (alloc_below _ _)) hsep (hrdF.step (alloc_below _ _)) hsv ?_
                   case hr => exact one_rdD _ _
                   case hby => have := HJ.out; omega
                   case hbase => have := hbrF.size; simp; omega
                   intro A3 n3 c3 w4 hown4 hb4 hEr4 hsep4 hrd4 hsv4 hn4)
                go_roundw
                case rel => exact ⟨j + 1, A3, n3, c3, by omega, by go_num, rfl, by rw [HM.out, ← List.append_assoc, HD.out]; exact hown4, hEr4, hsep4, hrd4, hsv4, (bnext hbrF (alloc_below _ _) hbrF.size).trans hb4⟩
                case measure => simp [intOf]; omega
              | true =>
                obtain ⟨hK, hKc, hKd⟩ := HYE.out hh
                have hKe : y[(Ur.cutA 61 y).length] = 61 := by rw [List.getElem?_eq_getElem hK] at hKc; exact Option.some.inj hKc
                have ec := u8eqk hKe 61 rfl
                have htk := HTK.out
                clear hKc hKe
                go_upto_region 13 with fail
                let b9 : DA.Box := ⟨9, 15, 16, #[.string ⟨#[]⟩, .string ⟨#[]⟩, .bool false], #[.string (bs (fold (Ur.cutA 61 y))), .string ⟨#[]⟩, .bool true], 85⟩
                refine DA.wp_region (n := 17) (V := DA.VK [some (.slice (some ⟨g2, o2, none⟩) n2 c2), some (.int .i64 (j : Int)), some (.pointer (some ⟨g2, o2 + j, none⟩)), some (.string (bs y)), some (.int .i64 ((Ur.cutA 61 y).length : Int)), some (.string (bs (Ur.cutA 61 y))), some (.string (bs (fold (Ur.cutA 61 y)))), some (.int .i64 ((Ur.cutA 61 y).length : Int)), some (.slice (some ⟨g2, o2, none⟩) n2 c2), some (.int .i64 (j : Int)), some (.pointer (some ⟨g2, o2 + j, none⟩)), some (.string (bs y)), some (.int .i64 (y.length : Int)), some (.bool true), some (.agg #[.string (bs (fold (Ur.cutA 61 y))), .string ⟨#[]⟩, .bool true]), none, some undef]) (S := DA.SB wi 94 [b9]) (by kernel_rfl) rfl (DA.SB.start rfl) ?_
                refine' DA.Det.takeE (i := 0) (v := _) rfl (fun _ => Iff.rfl) (by kernel_rfl) (by kernel_rfl) (by kernel_rfl) (DA.YS.pure rfl rfl ?rpy0 ?spy0) ?npy0
                case rpy0 => intro a' L W hS; go_simp; first | rfl | exact congrArg bs (Ur.cutA_no hh).symm | trace_state
                case spy0 => exact fun a' L W _ h => h.other (by simp [b9]) (Below.refl _ _)
                try simp only [Act.put, List.setIfInBounds_toArray, List.set_cons_zero, List.set_cons_succ]
                refine' DA.Det.takeE (i := 1) (v := _) rfl (fun _ => Iff.rfl) (by kernel_rfl) (by kernel_rfl) (by kernel_rfl) (DA.YS.pure rfl rfl ?rpy1 ?spy1) ?npy1
                case rpy1 => intro a' L W hS; go_simp; first | rfl | exact congrArg bs (Ur.cutA_no hh).symm | trace_state
                case spy1 => exact fun a' L W _ h => h.other (by simp [b9]) (Below.refl _ _)
                try simp only [Act.put, List.setIfInBounds_toArray, List.set_cons_zero, List.set_cons_succ]
                refine' DA.Det.takeE (i := 2) (v := _) rfl (fun _ => Iff.rfl) (by kernel_rfl) (by kernel_rfl) (by kernel_rfl) (DA.YS.pure rfl rfl ?rpy2 ?spy2) ?npy2
                case rpy2 => intro a' L W hS; go_simp; first | rfl | exact congrArg bs (Ur.cutA_no hh).symm | trace_state
                case spy2 => exact fun a' L W _ h => h.other (by simp [b9]) (Below.refl _ _)
                try simp only [Act.put, List.setIfInBounds_toArray, List.set_cons_zero, List.set_cons_succ]
                refine' DA.Det.takeE (i := 3) (v := _) rfl (fun _ => Iff.rfl) (by kernel_rfl) (by kernel_rfl) (by kernel_rfl) (DA.YS.pure rfl rfl ?rpy3 ?spy3) ?npy3
                case rpy3 => intro a' L W hS; have q3 := ((hS.1.cell (p := ⟨g2, o2 + j, none⟩) hg2).trans hd1); go_simp; first | rfl | exact congrArg bs (Ur.cutA_no hh).symm | trace_state
                case spy3 => exact fun a' L W _ h => h.other (by simp [b9]) (Below.refl _ _)
                try simp only [Act.put, List.setIfInBounds_toArray, List.set_cons_zero, List.set_cons_succ]
                refine' DA.Det.takeE (i := 4) (v := _) rfl (fun _ => Iff.rfl) (by kernel_rfl) (by kernel_rfl) (by kernel_rfl) (DA.YS.pure rfl rfl ?rpy4 ?spy4) ?npy4
                case rpy4 => intro a' L W hS; go_simp; first | rfl | exact congrArg bs (Ur.cutA_no hh).symm | trace_state
                case spy4 => exact fun a' L W _ h => h.other (by simp [b9]) (Below.refl _ _)
                try simp only [Act.put, List.setIfInBounds_toArray, List.set_cons_zero, List.set_cons_succ]
                refine' DA.Det.takeE (i := 5) (v := _) rfl (fun _ => Iff.rfl) (by kernel_rfl) (by kernel_rfl) (by kernel_rfl) (DA.YS.pure rfl rfl ?rpy5 ?spy5) ?npy5
                case rpy5 => intro a' L W hS; go_simp; first | rfl | exact congrArg bs (Ur.cutA_no hh).symm | trace_state
                case spy5 => exact fun a' L W _ h => h.other (by simp [b9]) (Below.refl _ _)
                try simp only [Act.put, List.setIfInBounds_toArray, List.set_cons_zero, List.set_cons_succ]
                refine' DA.Det.takeE (i := 6) (v := _) rfl (fun _ => Iff.rfl) (by kernel_rfl) (by kernel_rfl) (by kernel_rfl) (DA.YS.call (f := _) (args := _) rfl ?rpy6 ?cpy6) ?npy6
                case rpy6 => intro W; go_simp; constructor <;> rfl
                case cpy6 =>
                  intro a' L W hL hS
                  refine (lower_any (Ur.cutA 61 y) W (by omega)).mono ?_
                  rintro e w9 ⟨rfl, hb9⟩
                  exact ⟨_, rfl, rfl, hS.other (by simp [b9]) hb9⟩
                try simp only [Act.put, List.setIfInBounds_toArray, List.set_cons_zero, List.set_cons_succ]
                refine' DA.Det.takeE (i := 7) (v := _) rfl (fun _ => Iff.rfl) (by kernel_rfl) (by kernel_rfl) (by kernel_rfl) (DA.YS.pure rfl rfl ?rpy7 ?spy7) ?npy7
                case rpy7 => intro a' L W hS; go_simp; first | rfl | exact congrArg bs (Ur.cutA_no hh).symm | trace_state
                case spy7 => exact fun a' L W _ h => h.other (by simp [b9]) (Below.refl _ _)
                try simp only [Act.put, List.setIfInBounds_toArray, List.set_cons_zero, List.set_cons_succ]
                refine' DA.Det.takeE (i := 8) (v := _) rfl (fun _ => Iff.rfl) (by kernel_rfl) (by kernel_rfl) (by kernel_rfl) (DA.YS.pure rfl rfl ?rpy8 ?spy8) ?npy8
                case rpy8 => intro a' L W hS; go_simp; first | rfl | exact congrArg bs (Ur.cutA_no hh).symm | trace_state
                case spy8 => exact fun a' L W _ h => h.other (by simp [b9]) (Below.refl _ _)
                try simp only [Act.put, List.setIfInBounds_toArray, List.set_cons_zero, List.set_cons_succ]
                refine' DA.Det.takeE (i := 9) (v := _) rfl (fun _ => Iff.rfl) (by kernel_rfl) (by kernel_rfl) (by kernel_rfl) (DA.YS.pure rfl rfl ?rpy9 ?spy9) ?npy9
                case rpy9 => intro a' L W hS; go_simp; first | rfl | exact congrArg bs (Ur.cutA_no hh).symm | trace_state
                case spy9 => exact fun a' L W _ h => h.other (by simp [b9]) (Below.refl _ _)
                try simp only [Act.put, List.setIfInBounds_toArray, List.set_cons_zero, List.set_cons_succ]
                refine' DA.Det.takeE (i := 10) (v := _) rfl (fun _ => Iff.rfl) (by kernel_rfl) (by kernel_rfl) (by kernel_rfl) (DA.YS.pure rfl rfl ?rpy10 ?spy10) ?npy10
                case rpy10 => intro a' L W hS; go_simp; first | rfl | exact congrArg bs (Ur.cutA_no hh).symm | trace_state
                case spy10 => exact fun a' L W _ h => h.other (by simp [b9]) (Below.refl _ _)
                try simp only [Act.put, List.setIfInBounds_toArray, List.set_cons_zero, List.set_cons_succ]
                refine' DA.Det.takeE (i := 11) (v := _) rfl (fun _ => Iff.rfl) (by kernel_rfl) (by kernel_rfl) (by kernel_rfl) (DA.YS.pure rfl rfl ?rpy11 ?spy11) ?npy11
                case rpy11 => intro a' L W hS; have q3 := ((hS.1.cell (p := ⟨g2, o2 + j, none⟩) hg2).trans hd1); go_simp; first | rfl | exact congrArg bs (Ur.cutA_no hh).symm | trace_state
                case spy11 => exact fun a' L W _ h => h.other (by simp [b9]) (Below.refl _ _)
                try simp only [Act.put, List.setIfInBounds_toArray, List.set_cons_zero, List.set_cons_succ]
                refine' DA.Det.takeE (i := 12) (v := _) rfl (fun _ => Iff.rfl) (by kernel_rfl) (by kernel_rfl) (by kernel_rfl) (DA.YS.pure rfl rfl ?rpy12 ?spy12) ?npy12
                case rpy12 => intro a' L W hS; go_simp; first | rfl | exact congrArg bs (Ur.cutA_no hh).symm | trace_state
                case spy12 => exact fun a' L W _ h => h.other (by simp [b9]) (Below.refl _ _)
                try simp only [Act.put, List.setIfInBounds_toArray, List.set_cons_zero, List.set_cons_succ]
                refine' DA.Det.takeE (i := 13) (v := _) rfl (fun _ => Iff.rfl) (by kernel_rfl) (by kernel_rfl) (by kernel_rfl) (DA.YS.pure rfl rfl ?rpy13 ?spy13) ?npy13
                case rpy13 => intro a' L W hS; go_simp; first | rfl | exact congrArg bs (Ur.cutA_no hh).symm | trace_state
                case spy13 => exact fun a' L W _ h => h.other (by simp [b9]) (Below.refl _ _)
                try simp only [Act.put, List.setIfInBounds_toArray, List.set_cons_zero, List.set_cons_succ]
                refine' DA.Det.takeE (i := 14) (v := _) rfl (fun _ => Iff.rfl) (by kernel_rfl) (by kernel_rfl) (by kernel_rfl) (DA.YS.pure rfl rfl ?rpy14 ?spy14) ?npy14
                case rpy14 => intro a' L W hS; go_simp; first | rfl | exact congrArg bs (Ur.cutA_no hh).symm | trace_state
                case spy14 => exact fun a' L W _ h => h.other (by simp [b9]) (Below.refl _ _)
                try simp only [Act.put, List.setIfInBounds_toArray, List.set_cons_zero, List.set_cons_succ]
                refine' DA.Det.takeL (i := 15) rfl ⟨_, 0, rfl⟩ (by kernel_rfl) (by kernel_rfl) (by kernel_rfl) (DA.YS.make (v := _) (f := _) rfl ?rpy15 ?spy15) ?npy15
                case rpy15 => intro W; go_simp; first | rfl | (constructor <;> rfl)
                case spy15 => exact fun a' L W hL hS => ⟨⟨_, rfl⟩, hS.make b9 (by simp [b9]) (by simp [b9]) hL (by simp [b9])⟩
                rintro v ⟨g9, rfl⟩
                try simp only [Act.put, List.setIfInBounds_toArray, List.set_cons_zero, List.set_cons_succ]
                refine' DA.Det.takeE (i := 16) (v := _) rfl (fun _ => Iff.rfl) (by kernel_rfl) (by kernel_rfl) (by kernel_rfl) (DA.YS.store (f := _) rfl rfl ?rpy16) ?npy16
                case rpy16 =>
                  intro a' L W he hL hd hS
                  have hip : L.getD 15 false = true := by have := hd ⟨15, .data⟩ (by simp) (by kernel_rfl); exact this
                  have hsl : a'.tmps[b9.p]? = some (.pointer (some ⟨g9, 0, none⟩)) := DA.slot_of (he (.tmp 9) (by simp [Op.operands]))
                  obtain ⟨r1, r2, r3⟩ := DA.SB.row b9 (by simp [b9]) hip hsl hS
                  rw [DA.getD_un hL, if_neg (by decide)] at r3
                  obtain ⟨q0, q1, q2, f0, f1, f2⟩ := row_facts3d r3
                  constructor
                  · go_simp
                    rfl
                  · refine DA.SB.store b9 (by simp [b9]) hip hsl (by simp [b9]) hL hS ?_ ?_ ?_ ?_
                    · repeat refine Below.setCell ?_ (by exact r1) _
                      exact hS.1
                    · simp only [DA.size_set]
                    · exact row_set3d r3
                    · intro k hk
                      simp only [DA.heap_rest hk]
                try simp only [Act.put, List.setIfInBounds_toArray, List.set_cons_zero, List.set_cons_succ]
                refine DA.Det.done (by kernel_rfl) (fun W hS => ?_) _
                obtain ⟨hgW, hgl, hrow⟩ := DA.SB.row b9 (by simp [b9]) (by kernel_rfl) (g := g9) rfl hS
                replace hrow : W.heap[g9]? = some (.cells #[.string (bs (fold (Ur.cutA 61 y))), .string ⟨#[]⟩, .bool true] 85 (0, 0)) := hrow
                have hbW : Below wi.heap.size wi W := hS.1
                clear hS
                clear b9
                obtain ⟨q0, q1, q2, f0, f1, f2⟩ := row_facts3d hrow
                have q4 := (hbW.cell (p := ⟨g2, o2 + j, none⟩) hg2).trans hd1
                have hKt : List.take (y.length - ((Ur.cutA 61 y).length + 1)) (List.drop ((Ur.cutA 61 y).length + 1) y) = Ur.cutB 61 y := by rw [hKd]; exact List.take_of_length_le (by rw [← hKd]; simp)
                clear hKd
                go_upto_region 16 with fail
                clear q0 q1 q2 f0 f1 f2 q4
                replace hbW := hbW.setCell (p := ⟨g9, 1, none⟩) hgW (.string (bs (Ur.cutB 61 y)))
                replace hrow := row_set1d (v := .string (bs (Ur.cutB 61 y))) hrow
                generalize W.setCell ⟨g9, 1, none⟩ (.string (bs (Ur.cutB 61 y))) = W1 at *
                obtain ⟨q0, q1, q2, f0, f1, f2⟩ := row_facts3d hrow
                have HD0 : Hid (Ctl.dirOf y = (fold (Ur.cutA 61 y), Ctl.argT (Ur.cutB 61 y), true)) := Lib.hid (by unfold Ctl.dirOf; rw [hh])
                have hBl : (Ur.cutB 61 y).length ≤ 1048576 := Nat.le_trans (Ur.cutB_le 61 y) hyl
                generalize Ur.cutB 61 y = B at *
                have HBe : Hid (B = B) := Lib.hid rfl
                clear hKt
                cases B with
                | nil =>
                  have HD : Hid (Ctl.dirOf y = (fold (Ur.cutA 61 y), [], true)) := Lib.hid (by rw [HD0.out]; rfl)
                  clear HD0
                  have hownF := hown.step hbW
                  have hEF := hEr.step hbW
                  have hrdF := hrd.step hbW
                  have hbrF := bnext hbr hbW hbr.size
                  clear hown hEr hrd hrow
                  go_wp2_with
                    (at_builtin
                     refine wp_appD3 rfl (.tmp 89) (.tmp 91) rfl w.heap.size (.slice A' n' c') _ rfl (hownF.step (alloc_below _ _)) _ 1 1 [(fold (Ur.cutA 61 y), [], true)] rfl ?hr ?hby ?hbase (hEF.step (alloc_below _ _)) hsep (hrdF.step (alloc_below _ _)) hsv ?_
                     case hr => exact one_rdD _ _
                     case hby => have := HJ.out; omega
                     case hbase => have := hbrF.size; simp; omega
                     intro A3 n3 c3 w4 hown4 hb4 hEr4 hsep4 hrd4 hsv4 hn4)
                  go_roundw
                  case rel => exact ⟨j + 1, A3, n3, c3, by omega, by go_num, rfl, by rw [HM.out, ← List.append_assoc, HD.out]; exact hown4, hEr4, hsep4, hrd4, hsv4, (bnext hbrF (alloc_below _ _) hbrF.size).trans hb4⟩
                  case measure => simp [intOf]; omega
                | cons b r =>
                  have hne : ((b :: r) == ([] : List UInt8)) = false := rfl
                  by_cases hb34 : b = 34
                  · have e34 := u8eqk hb34 34 rfl
                    subst hb34
                    have HD : Hid (Ctl.dirOf y = (fold (Ur.cutA 61 y), (Ctl.unq (34 :: r)).getD [], true)) := Lib.hid (by rw [HD0.out, Ctl.argT_yes (by simp [preB])])
                    have HU := fun WW => unquoteR_any (34 :: r) WW (by omega)
                    unfold unqV at HU
                    clear HD0
                    generalize (Ctl.unq (34 :: r)).getD [] = T at *
                    generalize (if (Ctl.unq (34 :: r)).isSome = true then (0 : Int) else 11) = q at *
                    have HU2 := Lib.hid HU
                    clear HU
                    go_wp2_with fail
                    refine (HU2.out _).mono ?_
                    rintro e W2 ⟨rfl, hb2⟩
                    replace hrow := row_keep hrow hb2
                    replace hgl : g9 < W2.heap.size := (Array.getElem?_eq_some_iff.1 hrow).1
                    replace hbW := bnext hbW hb2 hbW.size
                    clear q0 q1 q2 f0 f1 f2
                    obtain ⟨q0, q1, q2, f0, f1, f2⟩ := row_facts3d hrow
                    go_upto_region 18 with fail
                    clear q0 q1 q2 f0 f1 f2
                    replace hbW := hbW.setCell (p := ⟨g9, 1, none⟩) hgW (.string (bs T))
                    replace hrow := row_set1d (v := .string (bs T)) hrow
                    generalize W2.setCell ⟨g9, 1, none⟩ (.string (bs T)) = W3 at *
                    obtain ⟨q0, q1, q2, f0, f1, f2⟩ := row_facts3d hrow
                    have hownF := hown.step hbW
                    have hEF := hEr.step hbW
                    have hrdF := hrd.step hbW
                    have hbrF := bnext hbr hbW hbr.size
                    clear hown hEr hrd hrow
                    go_wp2_with
                      (at_builtin
                       refine wp_appD3 rfl (.tmp 89) (.tmp 91) rfl w.heap.size (.slice A' n' c') _ rfl (hownF.step (alloc_below _ _)) _ 1 1 [(fold (Ur.cutA 61 y), T, true)] rfl ?hr ?hby ?hbase (hEF.step (alloc_below _ _)) hsep (hrdF.step (alloc_below _ _)) hsv ?_
                       case hr => exact one_rdD _ _
                       case hby => have := HJ.out; omega
                       case hbase => have := hbrF.size; simp; omega
                       intro A3 n3 c3 w4 hown4 hb4 hEr4 hsep4 hrd4 hsv4 hn4)
                    go_roundw
                    case rel => exact ⟨j + 1, A3, n3, c3, by omega, by go_num, rfl, by rw [HM.out, ← List.append_assoc, HD.out]; exact hown4, hEr4, hsep4, hrd4, hsv4, (bnext hbrF (alloc_below _ _) hbrF.size).trans hb4⟩
                    case measure => simp [intOf]; omega
                  · have e34 := u8nek hb34 34 rfl
                    have HD : Hid (Ctl.dirOf y = (fold (Ur.cutA 61 y), b :: r, true)) := Lib.hid (by rw [HD0.out, Ctl.argT_no (by simp [preB]; exact hb34)])
                    clear HD0
                    have hownF := hown.step hbW
                    have hEF := hEr.step hbW
                    have hrdF := hrd.step hbW
                    have hbrF := bnext hbr hbW hbr.size
                    clear hown hEr hrd hrow
                    go_wp2_with
                      (at_builtin
                       refine wp_appD3 rfl (.tmp 89) (.tmp 91) rfl w.heap.size (.slice A' n' c') _ rfl (hownF.step (alloc_below _ _)) _ 1 1 [(fold (Ur.cutA 61 y), (b :: r), true)] rfl ?hr ?hby ?hbase (hEF.step (alloc_below _ _)) hsep (hrdF.step (alloc_below _ _)) hsv ?_
                       case hr => exact one_rdD _ _
                       case hby => have := HJ.out; omega
                       case hbase => have := hbrF.size; simp; omega
                       intro A3 n3 c3 w4 hown4 hb4 hEr4 hsep4 hrd4 hsv4 hn4)
                    go_roundw
                    case rel => exact ⟨j + 1, A3, n3, c3, by omega, by go_num, rfl, by rw [HM.out, ← List.append_assoc, HD.out]; exact hown4, hEr4, hsep4, hrd4, hsv4, (bnext hbrF (alloc_below _ _) hbrF.size).trans hb4⟩
                    case measure => simp [intOf]; omega
        · obtain rfl : j = n2 := by omega
          go_wp2
          go_roundw
          case rel => exact ⟨k + 1, A', n', c', by omega, by go_num, rfl, by rw [HS.out, ← HT.out]; exact hown, hrd, hsv, hbr⟩
          case measure => simp [intOf]; omega
    · obtain rfl : k = n1 := by omega
      go_wp2
      go_ret
      exact ⟨A', n', c', rfl, by rw [← HF2.out]; exact hown, hbr⟩
end Go.Proofs.YtfhkgbimnfjfhaaGreatDoor
