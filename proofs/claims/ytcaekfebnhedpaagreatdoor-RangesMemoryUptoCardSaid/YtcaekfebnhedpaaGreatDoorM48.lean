/- Joined texts: The document's Apart, walked. The conditions stand in each line. -/
import Derived.Test.YtcaekfebnhedpaaGreatDoorM47
set_option linter.unusedVariables false
set_option linter.unusedSimpArgs false
namespace Go.Proofs.YtcaekfebnhedpaaGreatDoor
open Go.RowKit

set_option maxRecDepth 100000
set_option maxHeartbeats 4000000 in
theorem apart_any (B N : Nat) (A : Nat → Option Addr) (n c : Nat → Nat) (gs os_ cS : Nat) (w : World) (hN : N ≤ 16) (h : RowsF w B N A n c (fun _ _ => False)) (hD : RowsD N A n c) (hgs : gs < w.heap.size)
    (hS : ∀ i, i < N → w.cell? ⟨gs, os_ + i, none⟩ = some (.slice (A i) (n i) (c i))) (hSn : ∀ i, i < N → (rowV A n c i).ownBlock ≠ some gs) (hn : ∀ i, i < N → n i ≤ 1073741824) (hB : B ≤ w.heap.size) :
    Calls Tryz.prog 27 #[.slice (some ⟨gs, os_, none⟩) N cS] w fun e w' => e = .returned (.bool true) ∧ ApFr w w' N A n c := by
  have HL : Hid (∀ i, i < N → ∀ b, (rowV A n c i).ownBlock = some b → b < w.heap.size) := Lib.hid fun i hi b hb => by
    obtain ⟨xs, h1, _⟩ := h i hi
    exact (World.ownsRow.lt h1 b hb).2
  have HC : Hid (∀ W, ApFr w W N A n c → ∀ i, i < N → W.cell? ⟨gs, os_ + i, none⟩ = some (.slice (A i) (n i) (c i))) := Lib.hid fun W hW i hi => (World.cell?_of_block (hW.block gs hgs fun j hj => hSn j hj)).trans (hS i hi)
  have HD := Lib.hid hD
  have HN := Lib.hid hn
  have H0 : Hid (RowsF w B N A n c (fun a _ => a < 0)) := Lib.hid (h.imp fun i j _ _ hq => absurd hq (by omega))
  have hfr0 : ApFr w w N A n c := ApFr.refl
  clear h hD hgs hS hSn hn
  go_enter Tryz.func27, Tryz.ntmps27
  go_wp2_with fail
  go_loopw [3] (fun t wr => ∃ i : Nat, i ≤ N ∧ t = .int .i64 (i : Int) ∧ Hid (RowsF wr B N A n c (fun a _ => a < i)) ∧ ApFr w wr N A n c) (fun t _ => N - (intOf t).toNat)
  case atStart => exact ⟨0, by omega, rfl, H0, hfr0⟩
  case round =>
    obtain ⟨i, hi, rfl, HR, hfr⟩ := hrel
    clear H0 hfr0
    by_cases hlt : i < N
    · have hni := HN.out i hlt
      have HRI : Hid (RowsF wr B N A n c (fun a b => a < i ∨ (a = i ∧ b < 0))) := Lib.hid (HR.out.imp fun a b _ _ hq => hq.elim id fun h => absurd h.2 (by omega))
      clear HR
      generalize hne : n i = ni at *
      have HNE := Lib.hid hne
      clear hne
      obtain ⟨wo, rfl⟩ : ∃ wo, wo = wr := ⟨_, rfl⟩
      go_wp2_with fail
      go_loopw [4] (fun t wr => ∃ j : Nat, j ≤ ni ∧ t = .int .i64 (j : Int) ∧ Hid (RowsF wr B N A n c (fun a b => a < i ∨ (a = i ∧ b < j))) ∧ ApFr w wr N A n c) (fun t _ => ni - (intOf t).toNat)
      case atStart => exact ⟨0, by omega, rfl, HRI, hfr⟩
      case round =>
        obtain ⟨j, hj, rfl, HR, hfr2⟩ := hrel
        clear HRI hfr
        have hc1 := HC.out _ hfr2 i hlt
        rw [HNE.out] at hc1
        by_cases hjl : j < ni
        · obtain ⟨g, hA, hb, ⟨old, hold⟩, hfz, hR2, hg2⟩ := HR.out.store HD.out hlt (j := j) (by rw [HNE.out]; exact hjl)
          have hfr3 : ApFr w (wr.setCell ⟨g, j, none⟩ (markV i)) N A n c := hfr2.grown hg2 fun k e => by cases e; exact .inr ⟨i, hlt, hb⟩
          have HR3 : Hid (RowsF (wr.setCell ⟨g, j, none⟩ (markV i)) B N A n c (fun a b => a < i ∨ (a = i ∧ b < j + 1))) := Lib.hid (hR2.imp fun a b _ _ hq => by
            rcases hq with hq | ⟨q1, q2⟩
            · exact .inl (.inl hq)
            · by_cases hbj : b = j
              · exact .inr ⟨q1, hbj⟩
              · exact .inl (.inr ⟨q1, by omega⟩))
          rw [hA] at hc1
          unfold markV at hfr3 HR3
          have hm1 : (7 * (i : Int) + 1) % 256 = 7 * (i : Int) + 1 := by omega
          clear HR hfr2 hR2 hg2 hA hb
          go_wp2
          go_roundw
          case rel => exact ⟨j + 1, by omega, by go_num, HR3, hfr3⟩
          case measure => simp [intOf]; omega
        · obtain rfl : j = ni := by omega
          have HR3 : Hid (RowsF wr B N A n c (fun a _ => a < i + 1)) := Lib.hid (HR.out.imp fun a b _ hb9 hq => by
            by_cases hai : a = i
            · subst hai; exact .inr ⟨rfl, by rw [HNE.out] at hb9; exact hb9⟩
            · exact .inl (by omega))
          clear HR
          go_wp2
          go_roundw
          case rel => exact ⟨i + 1, by omega, by go_num, HR3, hfr2⟩
          case measure => simp [intOf]; omega
    · obtain rfl : i = N := by omega
      have HT : Hid (RowsF wr B i A n c (fun _ _ => True)) := Lib.hid (HR.out.imp fun a b ha _ _ => ha)
      clear HR hlt hi
      obtain ⟨N, rfl⟩ : ∃ N, N = i := ⟨_, rfl⟩
      obtain ⟨wo, rfl⟩ : ∃ wo, wo = wr := ⟨_, rfl⟩
      go_wp2_with fail
      go_loopw [5] (fun t wr => ∃ i : Nat, i ≤ N ∧ t = .int .i64 (i : Int) ∧ Hid (RowsF wr B N A n c (fun _ _ => True)) ∧ ApFr w wr N A n c) (fun t _ => N - (intOf t).toNat)
      case atStart => exact ⟨0, by omega, rfl, HT, hfr⟩
      case round =>
        obtain ⟨i, hi, rfl, HR, hfr3⟩ := hrel
        clear HT hfr
        by_cases hlt : i < N
        · have hni := HN.out i hlt
          have hc1 := HC.out _ hfr3 i hlt
          have hwz := hfr3.size
          have HO : Hid (OneOK wr B w.heap.size A n c i (.slice (A i) (n i) (c i)) (n i)) := Lib.hid (OneOK.start HR.out hlt)
          have HM := HO
          generalize hne : n i = ni at *
          have HNE := Lib.hid hne
          clear hne
          generalize A i = Ai at *
          generalize c i = ci at *
          obtain ⟨wo2, rfl⟩ : ∃ wo2, wo2 = wr := ⟨_, rfl⟩
          go_wp2_with fail
          go_loopw [6, 7] (fun u t wr => ∃ (j : Nat) (A6 : Option Addr) (c6 : Nat), j ≤ 16 ∧ t = .int .i64 (j : Int) ∧ u = .slice A6 (ni + j) c6 ∧ Hid (RowsF wr B N A n c (fun _ _ => True)) ∧ Hid (OneOK wr B w.heap.size A n c i (.slice A6 (ni + j) c6) (ni + j)) ∧ ApFr w wr N A n c) (fun _ t _ => 16 - (intOf t).toNat)
          case atStart => exact ⟨0, Ai, ci, by omega, rfl, rfl, HR, HO, hfr3⟩
          case round =>
            obtain ⟨j, A6, c6, hj, rfl, rfl, HR4, HO4, hfr4⟩ := hrel
            clear HR HO hfr3 hc1
            by_cases hjl : j < 16
            · have hal : wr.grownBy (wr.alloc (.cells #[.int .u8 (128 + (i : Int))] 5)) none := World.grownBy_alloc _ _ _
              have hR5 := HR4.out.far hal (fun a ha => by cases e : (rowV A n c a).ownBlock <;> simp)
              have hfr5 := hfr4.grown hal (fun k e => by cases e)
              have hz5 := hfr5.size
              obtain ⟨zs, o1, o2, o3, o4⟩ := HO4.out
              obtain ⟨v', w', hrun, hap⟩ := app_one (wr.alloc (.cells #[.int .u8 (128 + (i : Int))] 5)) 32 B _ (ni + j) zs (o1.alloc _) (some ⟨wr.heap.size, 0, none⟩) 1 (.int .u8 (128 + (i : Int))) (cell1_rd wr _ _) rfl (by omega) (by omega)
              obtain ⟨r1, r2, row, r3, r4⟩ := hR5.app HD.out HL.out hz5 hlt (o1.alloc _) o2 o3 o4 hap
              obtain ⟨A7, c7, rfl⟩ := own_slice r2.choose_spec.1
              have hfr6 := hfr5.grown r3 r4
              have HR6 := Lib.hid r1
              have HO6 := Lib.hid r2
              have hm1 : (128 + (i : Int)) % 256 = 128 + (i : Int) := by omega
              clear hal hR5 hfr5 hz5 o1 o2 o3 o4 hap r1 r2 r3 r4 HR4 HO4 hfr4
              go_wp2_with
                (at_builtin
                 refine Lib.wpList_append_run _ rfl (.tmp 50) (.tmp 54) 32 32 rfl _ _ rfl rfl _ _ hrun ?_)
              go_roundw
              case rel => exact ⟨j + 1, A7, c7, by omega, by go_num, rfl, HR6, HO6, hfr6⟩
              case measure => simp [intOf]; omega
            · obtain rfl : j = 16 := by omega
              have hc4 := HC.out _ hfr4 i hlt
              rw [HNE.out] at hc4
              have hz4 := hfr4.size
              obtain ⟨zs, o1, o2, o3, o4⟩ := OneOK.start (s0 := w.heap.size) HR4.out hlt
              rw [HNE.out] at o1 o2 o3 o4
              obtain ⟨v', w', hrun, hap⟩ := app_zeros wr 32 B _ ni zs o1 600 (by omega) (by omega) (by omega) (by omega)
              obtain ⟨r1, r2, row, r3, r4⟩ := HR4.out.app HD.out HL.out hz4 hlt o1 (by rw [HNE.out]; exact o2) (by rw [HNE.out]; exact o3) o4 hap
              obtain ⟨A8, c8, rfl⟩ := own_slice r2.choose_spec.1
              have hfr6 := hfr4.grown r3 r4
              have HR6 := Lib.hid r1
              have hc6 := HC.out _ hfr6 i hlt
              rw [HNE.out] at hc6
              have hq1 : ((ni : Int) + 600 != (ni : Int) + 600) = false := by simp
              have hq2 : ((ni : Int) + 16 != (ni : Int) + 16) = false := by simp
              clear HO4 o1 o2 o3 o4 hap r1 r2 r3 r4 HR4 hfr4
              go_wp2_with
                (at_builtin
                 refine Lib.wpList_append_run _ rfl (.tmp 60) _ 32 3 rfl _ _ rfl rfl _ _ hrun ?_)
              go_roundw
              case rel => exact ⟨i + 1, by omega, by go_num, HR6, hfr6⟩
              case measure => simp [intOf]; omega
        · obtain rfl : i = N := by omega
          clear hlt hi
          obtain ⟨N, rfl⟩ : ∃ N, N = i := ⟨_, rfl⟩
          obtain ⟨wo2, rfl⟩ : ∃ wo2, wo2 = wr := ⟨_, rfl⟩
          go_wp2_with fail
          go_loop [9] (fun t => ∃ i : Nat, i ≤ N ∧ t = .int .i64 (i : Int)) (fun t => N - (intOf t).toNat)
          case atStart => exact ⟨0, by omega, rfl⟩
          case round =>
            obtain ⟨i, hi, rfl⟩ := hrel
            by_cases hlt : i < N
            · have hni := HN.out i hlt
              have hc1 := HC.out _ hfr3 i hlt
              obtain ⟨xs, hx1, hx2⟩ := HR.out i hlt
              unfold rowV at hx1
              generalize hne : n i = ni at *
              have HNE := Lib.hid hne
              clear hne
              have HX1 := Lib.hid hx1
              have HX2 := Lib.hid hx2
              clear hx1 hx2
              generalize A i = Ai at *
              generalize c i = ci at *
              go_wp2_with fail
              go_loop [10] (fun t => ∃ j : Nat, j ≤ ni ∧ t = .int .i64 (j : Int)) (fun t => ni - (intOf t).toNat)
              case atStart => exact ⟨0, by omega, rfl⟩
              case round =>
                obtain ⟨j, hj, rfl⟩ := hrel
                by_cases hjl : j < ni
                · obtain ⟨g, cap, hv, hbg, hgl⟩ := HX1.out.form (by omega)
                  injection hv with hv1 hv2 hv3
                  subst hv1 hv3
                  have hcell := HX1.out.cellAt j (by omega)
                  rw [HX2.out j hjl trivial] at hcell
                  unfold markV at hcell
                  have hm1 : (7 * (i : Int) + 1) % 256 = 7 * (i : Int) + 1 := by omega
                  clear HX1 HX2 hv2
                  go_wp2
                  go_round
                  case rel => exact ⟨j + 1, by omega, by go_num⟩
                  case measure => simp [intOf]; omega
                · obtain rfl : j = ni := by omega
                  clear HX1 HX2
                  go_wp2
                  go_round
                  case rel => exact ⟨i + 1, by omega, by go_num⟩
                  case measure => simp [intOf]; omega
            · obtain rfl : i = N := by omega
              go_wp2
              go_ret
              exact ⟨rfl, hfr3⟩
end Go.Proofs.YtcaekfebnhedpaaGreatDoor
