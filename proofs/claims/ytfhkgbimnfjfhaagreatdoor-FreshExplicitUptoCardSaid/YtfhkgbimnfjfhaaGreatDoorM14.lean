/- Joined texts: control.read: the table of the first directives; CopyFields: the list as new memory; Comparison of two fields by Go's '==' and '!=': name and value; SameFields: equal lists. The conditions stand in each line. -/
import Derived.Test.YtfhkgbimnfjfhaaGreatDoorChecked
import Derived.Test.YtfhkgbimnfjfhaaGreatDoorM3
import Derived.Test.YtfhkgbimnfjfhaaGreatDoorM4
import Derived.Test.YtfhkgbimnfjfhaaGreatDoorM10
import Derived.Test.YtfhkgbimnfjfhaaGreatDoorM12
import Derived.Test.YtfhkgbimnfjfhaaGreatDoorM13
import Derived.Deep.QuietTactic
import Derived.BigQuiet
import Derived.Deep.Cut
import Derived.Deep.DeepCutAuto
set_option linter.unusedVariables false
set_option linter.unusedSimpArgs false
namespace Go.Proofs.YtfhkgbimnfjfhaaGreatDoor
open Go.RowKit

set_option maxRecDepth 100000
theorem TabW.old {w : World} {B mb : Nat} {D : List Ctl.Dir} {d : Ctl.Dir} (h : TabW w B mb D.length D) (hd : Ctl.hasD D d.1 = true) : TabW w B mb (D ++ [d]).length (D ++ [d]) := by
  obtain ⟨h0, M, h1, h2⟩ := h
  exact ⟨h0, M, h1.mono (by simp), h2.old hd⟩
theorem mapTurned_maxl {w w' : World} {mb : Nat} (h : w.mapTurned w' mb) (hM : MaxL w) : MaxL w' := by
  obtain ⟨m, hm⟩ := hM
  refine ⟨m, (World.cell?_of_block (h.grown.block _ (World.block_lt_of_cell? w _ hm) ?_)).trans hm⟩
  intro e
  obtain ⟨es, clock, es', clock', hb, -⟩ := h
  injection e with e
  rw [← e] at hb
  simp [World.cell?, hb] at hm
set_option maxHeartbeats 8000000 in
theorem tabread_any (A : Option Addr) (n c : Nat) (V : List (List UInt8)) (w : World) (hM : MaxL w) (hl : RdS w A n V) (hn : n ≤ 1048576) (hV : ∀ v ∈ V, v.length ≤ 1048576) :
    Calls Tryz.prog 44 #[.slice A n c] w fun e w' => ∃ mb N, e = .returned (.map (some mb)) ∧ TabW w' w.heap.size mb N (Ctl.dirsV V) ∧ Below w.heap.size w w' := by
  have hmm := @run_makeMap Tryz.prog
  have hal := alloc_below w (.map #[] 0)
  obtain ⟨B, hB⟩ : ∃ B, B = w.heap.size := ⟨_, rfl⟩
  have hm0 : TabW (w.alloc (.map #[] 0)) B w.heap.size (Ctl.dirsV (V.take 0)).length (Ctl.dirsV (V.take 0)) := ⟨by omega, _, World.ownsMap_made w Tryz.prog 9 argR, AtL.nil⟩
  have hl0 := hl.step hal
  have hM0 := maxl_b hM hal
  have HV := Lib.hid hV
  have HF : Hid (Ctl.dirsV (V.take n) = Ctl.dirsV V) := Lib.hid (by rw [List.take_of_length_le (by rw [hl.1]; exact Nat.le_refl _)])
  have hBw : B ≤ w.heap.size := by omega
  have hbr0 : Below B w (w.alloc (.map #[] 0)) := hal.mono hBw
  rw [← hB]
  clear hM hl hV
  go_enter Tryz.func44, Tryz.ntmps44
  go_wp2
  generalize w.alloc (.map #[] 0) = w0 at *
  go_loopw [14] (fun t wr => ∃ k : Nat, k ≤ n ∧ t = .int .i64 (k : Int) ∧ TabW wr B w.heap.size (Ctl.dirsV (V.take k)).length (Ctl.dirsV (V.take k)) ∧ RdS wr A n V ∧ MaxL wr ∧ Below B w wr) (fun t _ => n - (intOf t).toNat)
  case atStart => exact ⟨0, by omega, rfl, hm0, hl0, hM0, hbr0⟩
  case round =>
    obtain ⟨k, hk, rfl, hT, hr, hM, hbr⟩ := hrel
    clear hm0 hl0 hM0 hbr0 hal
    by_cases hlt : k < n
    · obtain ⟨g, o, x, rfl, hg, HX, hc1⟩ := hr.at_ hlt
      have HS := Lib.hid (Ctl.dirsV_snoc HX.out)
      have hxl : x.length ≤ 1048576 := HV.out x (mem_of_get? HX.out)
      have HK : Hid ((Ctl.dirsV (V.take k)).length ≤ k * 1048577) := Lib.hid (Ctl.dirsV_le V k HV.out)
      have HE : Hid (∀ (j : Nat) y, (listL x)[j]? = some y → y.length ≤ x.length) := Lib.hid fun j y h => list_each x (mem_of_get? h)
      have HEl := Lib.hid (list_len x)
      have hBr := Nat.le_trans hBw hbr.size
      go_wp2_with fail
      refine (list_own x _ (by omega)).mono ?_
      rintro e wl ⟨A2, n2, c2, rfl, hE, hbl⟩
      have hEr := hE.rd
      have hT2 := hT.step hbl
      have hr2 := hr.step hbl
      have hM2 := maxl_b hM hbl
      have hbl2 := bnext hbr hbl hBr
      clear hE
      generalize listL x = E at *
      have hn2 : n2 ≤ 1048577 := by have := HEl.out; rw [hEr.1] at this; omega
      have HT : Hid ((E.take n2).map Ctl.dirOf = E.map Ctl.dirOf) := Lib.hid (by rw [List.take_of_length_le (by rw [hEr.1]; exact Nat.le_refl _)])
      clear hbl hT hr hM hbr HF hc1 hBr
      obtain ⟨wo, rfl⟩ : ∃ wo, wo = wr := ⟨_, rfl⟩
      go_wp2
      go_loopw [21] (fun t wr => ∃ j : Nat, j ≤ n2 ∧ t = .int .i64 (j : Int) ∧ TabW wr B w.heap.size (Ctl.dirsV (V.take k) ++ (E.take j).map Ctl.dirOf).length (Ctl.dirsV (V.take k) ++ (E.take j).map Ctl.dirOf) ∧ RdS wr A2 n2 E ∧ RdS wr (some ⟨g, o, none⟩) n V ∧ MaxL wr ∧ Below B w wr) (fun t _ => n2 - (intOf t).toNat)
      case atStart => exact ⟨0, by omega, rfl, by simpa using hT2, hEr, hr2, hM2, hbl2⟩
      case round =>
        obtain ⟨j, hj, rfl, hT, hE, hr, hM, hbr⟩ := hrel
        clear hT2 hEr hr2 hM2 hbl2
        have hBr := Nat.le_trans hBw hbr.size
        by_cases hlj : j < n2
        · obtain ⟨g2, o2, y, rfl, hg2, HY, hd1⟩ := hE.at_ hlj
          have hyl : y.length ≤ 1048576 := by have := HE.out j y HY.out; omega
          have HM := Lib.hid (Ctl.dir_snoc HY.out)
          have HJ : Hid ((Ctl.dirsV (V.take k) ++ (E.take j).map Ctl.dirOf).length ≤ 1048576 * 1048577 + 1048577) := Lib.hid (by
            rw [List.length_append, List.length_map, List.length_take]
            have := HK.out
            have h2 : k * 1048577 ≤ 1048576 * 1048577 := Nat.mul_le_mul_right _ (by omega)
            omega)
          have hal' := Nat.le_trans (Ur.cutA_le 61 y) hyl
          have hbl' := Nat.le_trans (Ur.cutB_le 61 y) hyl
          have HD0 : Hid (Ctl.dirOf y = (fold (Ur.cutA 61 y), Ctl.argT (Ur.cutB 61 y), Ur.hasC 61 y)) := Lib.hid rfl
          go_wp2_with fail
          refine (cut_any y 61 _ hM (by omega)).mono ?_
          rintro e w3 ⟨rfl, hb3⟩
          generalize Ur.cutA 61 y = a at *
          generalize Ur.cutB 61 y = b at *
          generalize Ur.hasC 61 y = hc at *
          have hT3 := hT.step hb3
          have hE3 := hE.step hb3
          have hr3 := hr.step hb3
          have hM3 := maxl_b hM hb3
          have hbr3 := bnext hbr hb3 hBr
          clear hT hE hr hM hbr hb3 hd1 hBr
          have hP := shasPrefix_any b [34] w3 (by omega) (by simp)
          cases hp : preB [34] b with
          | true =>
            rw [hp] at hP
            have HD : Hid (Ctl.dirOf y = (fold a, (Ctl.unq b).getD [], hc)) := Lib.hid (by rw [HD0.out, Ctl.argT_yes hp])
            have hul : ((Ctl.unq b).getD []).length ≤ 1048576 := by rw [← Ctl.argT_yes hp]; exact Nat.le_trans (Ctl.argT_len b) hbl'
            have HU := unquote_any b w3 (by omega)
            unfold unqV at HU
            generalize (Ctl.unq b).getD [] = T at *
            generalize (if (Ctl.unq b).isSome = true then (0 : Int) else 11) = q at *
            clear HD0 hp
            go_wp2_with fail
            refine hP.mono ?_
            rintro e w9 ⟨rfl, rfl⟩
            go_wp2_with fail
            refine HU.mono ?_
            rintro e w4 ⟨rfl, hb4⟩
            clear hP HU
            have hT4 := hT3.step hb4
            have hE4 := hE3.step hb4
            have hr4 := hr3.step hb4
            have hM4 := maxl_b hM3 hb4
            have hbr4 := bnext hbr3 hb4 (Nat.le_trans hBw hbr3.size)
            clear hT3 hE3 hr3 hM3 hbr3 hb4
            go_wp2_with fail
            refine (fold_any a _ (by omega)).mono ?_
            rintro e w5 ⟨rfl, hb5⟩
            have hT5 := hT4.step hb5
            have hE5 := hE4.step hb5
            have hr5 := hr4.step hb5
            have hM5 := maxl_b hM4 hb5
            have hbr5 := bnext hbr4 hb5 (Nat.le_trans hBw hbr4.size)
            have hzl : (fold a).length ≤ 1048576 := by rw [fold_length]; exact hal'
            generalize fold a = z at *
            clear hT4 hE4 hr4 hM4 hbr4 hb5
            have hal5 := alloc_below w5 (.cells #[.string (bs z)] 9)
            have hC := tabhas_any w.heap.size B _ _ _ 1 1 [z] _ (hT5.step hal5) (one_rdS' w5 z 9 w5.heap.size rfl) (by omega) (by simp; omega)
            rw [List.any_cons, List.any_nil, Bool.or_false] at hC
            have hT6 := hT5.step hal5
            have hE6 := hE5.step hal5
            have hr6 := hr5.step hal5
            have hM6 := maxl_b hM5 hal5
            have hbr6 := bnext hbr5 hal5 (Nat.le_trans hBw hbr5.size)
            clear hT5 hE5 hr5 hM5 hbr5
            cases hh : Ctl.hasD (Ctl.dirsV (V.take k) ++ (E.take j).map Ctl.dirOf) z with
            | true =>
              rw [hh] at hC
              have HH := Lib.hid hh
              clear hh
              go_wp2_with fail
              refine hC.mono ?_
              rintro e w7 ⟨rfl, hb7⟩
              clear hC
              go_wp2
              go_roundw
              case rel => exact ⟨j + 1, by omega, by go_num, by rw [HM.out, ← List.append_assoc, HD.out]; exact (hT6.step hb7).old HH.out, hE6.step hb7, hr6.step hb7, maxl_b hM6 hb7, bnext hbr6 hb7 (Nat.le_trans hBw hbr6.size)⟩
              case measure => simp [intOf]; omega
            | false =>
              rw [hh] at hC
              have HH := Lib.hid hh
              clear hh
              go_wp2_with fail
              refine hC.mono ?_
              rintro e w7 ⟨rfl, hb7⟩
              clear hC
              have hE7 := hE6.step hb7
              have hr7 := hr6.step hb7
              have hM7 := maxl_b hM6 hb7
              have hbr7 := bnext hbr6 hb7 (Nat.le_trans hBw hbr6.size)
              obtain ⟨hBm, M, hm, hat⟩ := hT6.step hb7
              have HAT := Lib.hid hat
              clear hT6 hE6 hr6 hM6 hbr6 hb7 hat
              go_wp2_with
                (at_mapUpdate
                 refine wpList_mapUpdate_in _ rfl _ _ _ 72 rfl 9 98 tabLaw Tryz.underlying72 argR w.heap.size _ M rfl hm ?hN _ _ (.string z) rfl rfl (tabKey (by unfold maxLen; omega)) (argD T hc) [] (argR_of T hc) ?_
                 case hN => have := HJ.out; unfold maxLen; omega
                 intro w8 hown8 hturn8)
              have hb8 := mapTurned_below hturn8 (B := B) hBm (Nat.le_trans hBw hbr7.size)
              go_roundw
              case rel => exact ⟨j + 1, by omega, by go_num, by rw [HM.out, ← List.append_assoc, HD.out]; exact ⟨hBm, _, hown8.mono (by simp only [List.length_append, List.length_singleton]; omega), HAT.out.new (d := (z, T, hc)) HH.out⟩, mapTurned_rdS hturn8 hE7, mapTurned_rdS hturn8 hr7, mapTurned_maxl hturn8 hM7, hbr7.trans hb8⟩
              case measure => simp [intOf]; omega
          | false =>
            rw [hp] at hP
            have HD : Hid (Ctl.dirOf y = (fold a, b, hc)) := Lib.hid (by rw [HD0.out, Ctl.argT_no hp])
            clear HD0 hp
            go_wp2_with fail
            refine hP.mono ?_
            rintro e w9 ⟨rfl, rfl⟩
            clear hP
            have hT4 := hT3
            have hE4 := hE3
            have hr4 := hr3
            have hM4 := hM3
            have hbr4 := hbr3
            clear hT3 hE3 hr3 hM3 hbr3
            go_wp2_with fail
            refine (fold_any a _ (by omega)).mono ?_
            rintro e w5 ⟨rfl, hb5⟩
            have hT5 := hT4.step hb5
            have hE5 := hE4.step hb5
            have hr5 := hr4.step hb5
            have hM5 := maxl_b hM4 hb5
            have hbr5 := bnext hbr4 hb5 (Nat.le_trans hBw hbr4.size)
            have hzl : (fold a).length ≤ 1048576 := by rw [fold_length]; exact hal'
            generalize fold a = z at *
            clear hT4 hE4 hr4 hM4 hbr4 hb5
            have hal5 := alloc_below w5 (.cells #[.string (bs z)] 9)
            have hC := tabhas_any w.heap.size B _ _ _ 1 1 [z] _ (hT5.step hal5) (one_rdS' w5 z 9 w5.heap.size rfl) (by omega) (by simp; omega)
            rw [List.any_cons, List.any_nil, Bool.or_false] at hC
            have hT6 := hT5.step hal5
            have hE6 := hE5.step hal5
            have hr6 := hr5.step hal5
            have hM6 := maxl_b hM5 hal5
            have hbr6 := bnext hbr5 hal5 (Nat.le_trans hBw hbr5.size)
            clear hT5 hE5 hr5 hM5 hbr5
            cases hh : Ctl.hasD (Ctl.dirsV (V.take k) ++ (E.take j).map Ctl.dirOf) z with
            | true =>
              rw [hh] at hC
              have HH := Lib.hid hh
              clear hh
              go_wp2_with fail
              refine hC.mono ?_
              rintro e w7 ⟨rfl, hb7⟩
              clear hC
              go_wp2
              go_roundw
              case rel => exact ⟨j + 1, by omega, by go_num, by rw [HM.out, ← List.append_assoc, HD.out]; exact (hT6.step hb7).old HH.out, hE6.step hb7, hr6.step hb7, maxl_b hM6 hb7, bnext hbr6 hb7 (Nat.le_trans hBw hbr6.size)⟩
              case measure => simp [intOf]; omega
            | false =>
              rw [hh] at hC
              have HH := Lib.hid hh
              clear hh
              go_wp2_with fail
              refine hC.mono ?_
              rintro e w7 ⟨rfl, hb7⟩
              clear hC
              have hE7 := hE6.step hb7
              have hr7 := hr6.step hb7
              have hM7 := maxl_b hM6 hb7
              have hbr7 := bnext hbr6 hb7 (Nat.le_trans hBw hbr6.size)
              obtain ⟨hBm, M, hm, hat⟩ := hT6.step hb7
              have HAT := Lib.hid hat
              clear hT6 hE6 hr6 hM6 hbr6 hb7 hat
              go_wp2_with
                (at_mapUpdate
                 refine wpList_mapUpdate_in _ rfl _ _ _ 72 rfl 9 98 tabLaw Tryz.underlying72 argR w.heap.size _ M rfl hm ?hN _ _ (.string z) rfl rfl (tabKey (by unfold maxLen; omega)) (argD b hc) [] (argR_of b hc) ?_
                 case hN => have := HJ.out; unfold maxLen; omega
                 intro w8 hown8 hturn8)
              have hb8 := mapTurned_below hturn8 (B := B) hBm (Nat.le_trans hBw hbr7.size)
              go_roundw
              case rel => exact ⟨j + 1, by omega, by go_num, by rw [HM.out, ← List.append_assoc, HD.out]; exact ⟨hBm, _, hown8.mono (by simp only [List.length_append, List.length_singleton]; omega), HAT.out.new (d := (z, b, hc)) HH.out⟩, mapTurned_rdS hturn8 hE7, mapTurned_rdS hturn8 hr7, mapTurned_maxl hturn8 hM7, hbr7.trans hb8⟩
              case measure => simp [intOf]; omega
        · obtain rfl : j = n2 := by omega
          go_wp2
          go_roundw
          case rel => exact ⟨k + 1, by omega, by go_num, by rw [HS.out, ← HT.out]; exact hT, hr, hM, hbr⟩
          case measure => simp [intOf]; omega
    · obtain rfl : k = n := by omega
      go_wp2
      go_ret
      exact ⟨w.heap.size, _, rfl, by rw [← HF.out]; exact hT, hbr⟩
end Go.Proofs.YtfhkgbimnfjfhaaGreatDoor
set_option linter.unusedVariables false
set_option linter.unusedSimpArgs false
namespace Go.Proofs.YtfhkgbimnfjfhaaGreatDoor
open Go.RowKit

set_option maxHeartbeats 400000 in
theorem copyFields_own (A : Option Addr) (n c : Nat) (l : List Fld) (w : World) (hl : RdF w A n l) (hn : n * 32 ≤ 140737488355328) :
    Calls Tryz.prog 19 #[.slice A n c] w fun e w' => ∃ A' n' c', e = .returned (.slice A' n' c') ∧ OwnF w' w.heap.size (.slice A' n' c') l ∧ Below w.heap.size w w' := by
  go_enter Tryz.func19, Tryz.ntmps19
  go_wp2_with
    (at_builtin
     refine wp_appF rfl (.tmp 5) (.tmp 6) rfl w.heap.size (.slice (some ⟨w.heap.size, 0, none⟩) 0 0) [] rfl (OwnF.made w) A n c l rfl ?hr ?hby ?hbase ?_
     case hr => exact hl.step (alloc_below _ _)
     case hby => simp; omega
     case hbase => simp
     intro A1 n1 c1 w1 hown1 hb1 hn1)
  go_ret
  exact ⟨A1, n1, c1, rfl, hown1, (alloc_below _ _).trans hb1⟩
theorem copyFields_any (A : Option Addr) (n c : Nat) (l : List Fld) (w : World) (hl : RdF w A n l) (hn : n * 32 ≤ 140737488355328) :
    Calls Tryz.prog 19 #[.slice A n c] w fun e w' => FldsOut w l e w' :=
  (copyFields_own A n c l w hl hn).mono fun e w' ⟨A', n', c', he, ho, hb⟩ => ⟨A', n', c', he, ho.rd, hb⟩
end Go.Proofs.YtfhkgbimnfjfhaaGreatDoor
set_option linter.unusedVariables false
set_option linter.unusedSimpArgs false
namespace Go.Proofs.YtfhkgbimnfjfhaaGreatDoor
open Go.RowKit

theorem fld_cells : (Tryz.prog.fieldsOf 46).toList.map (fun f => (f.name, f.type, f.offset)) = [("Name", 9, 0), ("Value", 9, 1)] := by kernel_rfl
theorem neq_fld (x1 x2 y1 y2 : List UInt8) (w : World) : (binOp .neq 46 (.agg #[.string (bs x1), .string (bs x2)]) (.agg #[.string (bs y1), .string (bs y2)])).run Tryz.prog w = .ok (.bool (!((x1 == y1) && (x2 == y2)))) w := by
  rw [run_neq_struct]
  have hs := run_equalIn_struct (P := Tryz.prog) w 9999 46 #[.string (bs x1), .string (bs x2)] #[.string (bs y1), .string (bs y2)] (by kernel_rfl) (by kernel_rfl)
  rw [hs]
  have hf := fld_cells
  match h : (Tryz.prog.fieldsOf 46).toList with
  | [] => rw [h] at hf; simp at hf
  | [_] => rw [h] at hf; simp at hf
  | [f, g] =>
    rw [h] at hf
    simp at hf
    obtain ⟨⟨f1, f2, f3⟩, g1, g2, g3⟩ := hf
    simp [Op.eqFields, f1, f2, f3, g1, g2, g3, go_sem, Tryz.underlying9]
    by_cases e1 : x1 = y1 <;> by_cases e2 : x2 = y2 <;> simp [e1, e2]
  | _ :: _ :: _ :: _ => rw [h] at hf; simp at hf
theorem eqg_fld (w : World) (x y : Operand) (xs ys : Array Value) : (eqGuard .neq 46 x y (.agg xs) (.agg ys)).run Tryz.prog w = .ok () w := run_eqGuard_agg w _ _ _ _ _ _ (by kernel_rfl)
end Go.Proofs.YtfhkgbimnfjfhaaGreatDoor
set_option linter.unusedVariables false
set_option linter.unusedSimpArgs false
namespace Go.Proofs.YtfhkgbimnfjfhaaGreatDoor
open Go.RowKit

set_option maxHeartbeats 400000 in
theorem sameFields_any (A B : Option Addr) (n m c d : Nat) (l r : List Fld) (w : World) (hl : RdF w A n l) (hr : RdF w B m r) (hn : n ≤ 140737488355328) (hm : m ≤ 140737488355328) :
    Calls Tryz.prog 60 #[.slice A n c, .slice B m d] w fun e w' => e = .returned (.bool (l == r)) ∧ Below w.heap.size w w' := by
  by_cases hnm : n = m
  case neg =>
    have HF : Hid ((l == r) = false) := Lib.hid (by rw [beq_eq_false_iff_ne]; intro h; apply hnm; rw [← hl.1, ← hr.1, h])
    have hnm' : ((n : Int) != (m : Int)) = true := by simp; omega
    go_enter Tryz.func60, Tryz.ntmps60
    go_wp2
    go_ret
    exact ⟨ret_bool HF.out.symm, Below.refl _ _⟩
  subst hnm
  have HN : Hid (∀ k : Nat, ∀ x y : Fld, l[k]? = some x → r[k]? = some y → x ≠ y → (l == r) = false) := Lib.hid fun k x y h1 h2 hne => by
    rw [beq_eq_false_iff_ne]; intro h; subst h; rw [h1] at h2; exact hne (Option.some.inj h2)
  have HT : Hid (l.take n = r.take n → (l == r) = true) := Lib.hid fun h => by
    rw [List.take_of_length_le (by rw [hl.1]; exact Nat.le_refl _), List.take_of_length_le (by rw [hr.1]; exact Nat.le_refl _)] at h; simpa using h
  go_enter Tryz.func60, Tryz.ntmps60
  go_wp2
  go_loopw [5] (fun t wr => ∃ k : Nat, k ≤ n ∧ t = .int .i64 k ∧ l.take k = r.take k ∧ Below w.heap.size w wr) (fun t _ => n - (intOf t).toNat)
  case atStart => exact ⟨0, by omega, rfl, rfl, Below.refl _ _⟩
  case round =>
    obtain ⟨k, hk, rfl, hall, hbr⟩ := hrel
    have HA := Lib.hid hall
    clear hall
    by_cases hlt : k < n
    · obtain ⟨g, o, x1, x2, rfl, hg, HX, hc1, hc2⟩ := (hl.step hbr).at_ hlt
      obtain ⟨g', o', y1, y2, rfl, hg', HY, hd1, hd2⟩ := (hr.step hbr).at_ hlt
      clear hl hr
      have HS : Hid ((x1, x2) = (y1, y2) → l.take (k + 1) = r.take (k + 1)) := Lib.hid fun h => by rw [take_snoc? HX.out, take_snoc? HY.out, HA.out, h]
      have HF : Hid ((x1, x2) ≠ (y1, y2) → (l == r) = false) := Lib.hid fun h => HN.out k _ _ HX.out HY.out h
      have hq := neq_fld x1 x2 y1 y2
      have hgd := eqg_fld
      go_wp2
      go_quiet (fail)
      go_wp2
      · have hne : (x1, x2) ≠ (y1, y2) := by rintro ⟨⟩; simp_all
        go_ret
        exact ⟨ret_bool (HF.out hne).symm, below_drewN hbr _⟩
      · have he : (x1, x2) = (y1, y2) := by simp_all
        go_roundw
        case rel => exact ⟨k + 1, by omega, by go_num, HS.out he, below_drewN hbr _⟩
        case measure => simp [intOf]; omega
    · obtain rfl : k = n := by omega
      go_wp2
      go_ret
      exact ⟨ret_bool (HT.out HA.out).symm, hbr⟩
end Go.Proofs.YtfhkgbimnfjfhaaGreatDoor
