import Derived.Test.YtfhkgbimnfjfhaaDoorTabW
import Derived.Test.YtfhkgbimnfjfhaaDoorUnq
import Derived.Test.YtfhkgbimnfjfhaaDoorMaxL
import Derived.Test.YtfhkgbimnfjfhaaDoorListR
import Derived.Test.YtfhkgbimnfjfhaaDoorReq
import Derived.Test.YtfhkgbimnfjfhaaDoorLast
/- control.read: the table of the first directives. Conditions: at most 2^20 values of at most 2^20 bytes; the library's variable MaxLen holds some int. -/
set_option linter.unusedVariables false
set_option linter.unusedSimpArgs false
namespace Go.Proofs.YtfhkgbimnfjfhaaDoor
open Go.RowKit

set_option maxRecDepth 100000
theorem TabW.old {w : World} {B mb : Nat} {D : List Ctl.Dir} {d : Ctl.Dir} (h : TabW w B mb D.length D) (hd : Ctl.hasD D d.1 = true) : TabW w B mb (D ++ [d]).length (D ++ [d]) := by
  obtain ⟨h0, M, h1, h2⟩ := h
  exact ⟨h0, M, h1.mono (by simp), h2.old hd⟩
theorem mapTurned_maxl {w w' : World} {mb : Nat} (h : w.mapTurned w' mb) (hM : MaxL w) : MaxL w' := by
  obtain ⟨m, hm⟩ := hM
  refine ⟨m, (World.cell?_of_block (h.grown.block _ (World.block_lt_of_cell? w _ hm) ?_)).trans hm⟩
  intro e
  obtain ⟨es, clock, es', clock', hb, -⟩ := h
  injection e with e
  rw [← e] at hb
  simp [World.cell?, hb] at hm
set_option maxHeartbeats 8000000 in
theorem tabread_any (A : Option Addr) (n c : Nat) (V : List (List UInt8)) (w : World) (hM : MaxL w) (hl : RdS w A n V) (hn : n ≤ 1048576) (hV : ∀ v ∈ V, v.length ≤ 1048576) :
    Calls Tryd.prog 23 #[.slice A n c] w fun e w' => ∃ mb N, e = .returned (.map (some mb)) ∧ TabW w' w.heap.size mb N (Ctl.dirsV V) ∧ Below w.heap.size w w' := by
  have hmm := @run_makeMap Tryd.prog
  have hal := alloc_below w (.map #[] 0)
  obtain ⟨B, hB⟩ : ∃ B, B = w.heap.size := ⟨_, rfl⟩
  have hm0 : TabW (w.alloc (.map #[] 0)) B w.heap.size (Ctl.dirsV (V.take 0)).length (Ctl.dirsV (V.take 0)) := ⟨by omega, _, World.ownsMap_made w Tryd.prog 9 argR, AtL.nil⟩
  have hl0 := hl.step hal
  have hM0 := maxl_b hM hal
  have HV := Lib.hid hV
  have HF : Hid (Ctl.dirsV (V.take n) = Ctl.dirsV V) := Lib.hid (by rw [List.take_of_length_le (by rw [hl.1]; exact Nat.le_refl _)])
  have hBw : B ≤ w.heap.size := by omega
  have hbr0 : Below B w (w.alloc (.map #[] 0)) := hal.mono hBw
  rw [← hB]
  clear hM hl hV
  go_enter Tryd.func23, Tryd.ntmps23
  go_wp2
  generalize w.alloc (.map #[] 0) = w0 at *
  go_loopw [14] (fun t wr => ∃ k : Nat, k ≤ n ∧ t = .int .i64 (k : Int) ∧ TabW wr B w.heap.size (Ctl.dirsV (V.take k)).length (Ctl.dirsV (V.take k)) ∧ RdS wr A n V ∧ MaxL wr ∧ Below B w wr) (fun t _ => n - (intOf t).toNat)
  case atStart => exact ⟨0, by omega, rfl, hm0, hl0, hM0, hbr0⟩
  case round =>
    obtain ⟨k, hk, rfl, hT, hr, hM, hbr⟩ := hrel
    clear hm0 hl0 hM0 hbr0 hal
    by_cases hlt : k < n
    · obtain ⟨g, o, x, rfl, hg, HX, hc1⟩ := hr.at_ hlt
      have HS := Lib.hid (Ctl.dirsV_snoc HX.out)
      have hxl : x.length ≤ 1048576 := HV.out x (mem_of_get? HX.out)
      have HK : Hid ((Ctl.dirsV (V.take k)).length ≤ k * 1048577) := Lib.hid (Ctl.dirsV_le V k HV.out)
      have HE : Hid (∀ (j : Nat) y, (listL x)[j]? = some y → y.length ≤ x.length) := Lib.hid fun j y h => list_each x (mem_of_get? h)
      have HEl := Lib.hid (list_len x)
      have hBr := Nat.le_trans hBw hbr.size
      go_wp2_with fail
      refine (list_own x _ (by omega)).mono ?_
      rintro e wl ⟨A2, n2, c2, rfl, hE, hbl⟩
      have hEr := hE.rd
      have hT2 := hT.step hbl
      have hr2 := hr.step hbl
      have hM2 := maxl_b hM hbl
      have hbl2 := bnext hbr hbl hBr
      clear hE
      generalize listL x = E at *
      have hn2 : n2 ≤ 1048577 := by have := HEl.out; rw [hEr.1] at this; omega
      have HT : Hid ((E.take n2).map Ctl.dirOf = E.map Ctl.dirOf) := Lib.hid (by rw [List.take_of_length_le (by rw [hEr.1]; exact Nat.le_refl _)])
      clear hbl hT hr hM hbr HF hc1 hBr
      obtain ⟨wo, rfl⟩ : ∃ wo, wo = wr := ⟨_, rfl⟩
      go_wp2
      go_loopw [21] (fun t wr => ∃ j : Nat, j ≤ n2 ∧ t = .int .i64 (j : Int) ∧ TabW wr B w.heap.size (Ctl.dirsV (V.take k) ++ (E.take j).map Ctl.dirOf).length (Ctl.dirsV (V.take k) ++ (E.take j).map Ctl.dirOf) ∧ RdS wr A2 n2 E ∧ RdS wr (some ⟨g, o, none⟩) n V ∧ MaxL wr ∧ Below B w wr) (fun t _ => n2 - (intOf t).toNat)
      case atStart => exact ⟨0, by omega, rfl, by simpa using hT2, hEr, hr2, hM2, hbl2⟩
      case round =>
        obtain ⟨j, hj, rfl, hT, hE, hr, hM, hbr⟩ := hrel
        clear hT2 hEr hr2 hM2 hbl2
        have hBr := Nat.le_trans hBw hbr.size
        by_cases hlj : j < n2
        · obtain ⟨g2, o2, y, rfl, hg2, HY, hd1⟩ := hE.at_ hlj
          have hyl : y.length ≤ 1048576 := by have := HE.out j y HY.out; omega
          have HM := Lib.hid (Ctl.dir_snoc HY.out)
          have HJ : Hid ((Ctl.dirsV (V.take k) ++ (E.take j).map Ctl.dirOf).length ≤ 1048576 * 1048577 + 1048577) := Lib.hid (by
            rw [List.length_append, List.length_map, List.length_take]
            have := HK.out
            have h2 : k * 1048577 ≤ 1048576 * 1048577 := Nat.mul_le_mul_right _ (by omega)
            omega)
          have hal' := Nat.le_trans (Ur.cutA_le 61 y) hyl
          have hbl' := Nat.le_trans (Ur.cutB_le 61 y) hyl
          have HD0 : Hid (Ctl.dirOf y = (fold (Ur.cutA 61 y), Ctl.argT (Ur.cutB 61 y), Ur.hasC 61 y)) := Lib.hid rfl
          go_wp2_with fail
          refine (cut_any y 61 _ hM (by omega)).mono ?_
          rintro e w3 ⟨rfl, hb3⟩
          generalize Ur.cutA 61 y = a at *
          generalize Ur.cutB 61 y = b at *
          generalize Ur.hasC 61 y = hc at *
          have hT3 := hT.step hb3
          have hE3 := hE.step hb3
          have hr3 := hr.step hb3
          have hM3 := maxl_b hM hb3
          have hbr3 := bnext hbr hb3 hBr
          clear hT hE hr hM hbr hb3 hd1 hBr
          have hP := shasPrefix_any b [34] w3 (by omega) (by simp)
          cases hp : preB [34] b with
          | true =>
            rw [hp] at hP
            have HD : Hid (Ctl.dirOf y = (fold a, (Ctl.unq b).getD [], hc)) := Lib.hid (by rw [HD0.out, Ctl.argT_yes hp])
            have hul : ((Ctl.unq b).getD []).length ≤ 1048576 := by rw [← Ctl.argT_yes hp]; exact Nat.le_trans (Ctl.argT_len b) hbl'
            have HU := unquote_any b w3 (by omega)
            unfold unqV at HU
            generalize (Ctl.unq b).getD [] = T at *
            generalize (if (Ctl.unq b).isSome = true then (0 : Int) else 11) = q at *
            clear HD0 hp
            go_wp2_with fail
            refine hP.mono ?_
            rintro e w9 ⟨rfl, rfl⟩
            go_wp2_with fail
            refine HU.mono ?_
            rintro e w4 ⟨rfl, hb4⟩
            clear hP HU
            have hT4 := hT3.step hb4
            have hE4 := hE3.step hb4
            have hr4 := hr3.step hb4
            have hM4 := maxl_b hM3 hb4
            have hbr4 := bnext hbr3 hb4 (Nat.le_trans hBw hbr3.size)
            clear hT3 hE3 hr3 hM3 hbr3 hb4
            go_wp2_with fail
            refine (fold_any a _ (by omega)).mono ?_
            rintro e w5 ⟨rfl, hb5⟩
            have hT5 := hT4.step hb5
            have hE5 := hE4.step hb5
            have hr5 := hr4.step hb5
            have hM5 := maxl_b hM4 hb5
            have hbr5 := bnext hbr4 hb5 (Nat.le_trans hBw hbr4.size)
            have hzl : (fold a).length ≤ 1048576 := by rw [fold_length]; exact hal'
            generalize fold a = z at *
            clear hT4 hE4 hr4 hM4 hbr4 hb5
            have hal5 := alloc_below w5 (.cells #[.string (bs z)] 9)
            have hC := tabhas_any w.heap.size B _ _ _ 1 1 [z] _ (hT5.step hal5) (one_rdS' w5 z 9 w5.heap.size rfl) (by omega) (by simp; omega)
            rw [List.any_cons, List.any_nil, Bool.or_false] at hC
            have hT6 := hT5.step hal5
            have hE6 := hE5.step hal5
            have hr6 := hr5.step hal5
            have hM6 := maxl_b hM5 hal5
            have hbr6 := bnext hbr5 hal5 (Nat.le_trans hBw hbr5.size)
            clear hT5 hE5 hr5 hM5 hbr5
            cases hh : Ctl.hasD (Ctl.dirsV (V.take k) ++ (E.take j).map Ctl.dirOf) z with
            | true =>
              rw [hh] at hC
              have HH := Lib.hid hh
              clear hh
              go_wp2_with fail
              refine hC.mono ?_
              rintro e w7 ⟨rfl, hb7⟩
              clear hC
              go_wp2
              go_roundw
              case rel => exact ⟨j + 1, by omega, by go_num, by rw [HM.out, ← List.append_assoc, HD.out]; exact (hT6.step hb7).old HH.out, hE6.step hb7, hr6.step hb7, maxl_b hM6 hb7, bnext hbr6 hb7 (Nat.le_trans hBw hbr6.size)⟩
              case measure => simp [intOf]; omega
            | false =>
              rw [hh] at hC
              have HH := Lib.hid hh
              clear hh
              go_wp2_with fail
              refine hC.mono ?_
              rintro e w7 ⟨rfl, hb7⟩
              clear hC
              have hE7 := hE6.step hb7
              have hr7 := hr6.step hb7
              have hM7 := maxl_b hM6 hb7
              have hbr7 := bnext hbr6 hb7 (Nat.le_trans hBw hbr6.size)
              obtain ⟨hBm, M, hm, hat⟩ := hT6.step hb7
              have HAT := Lib.hid hat
              clear hT6 hE6 hr6 hM6 hbr6 hb7 hat
              go_wp2_with
                (at_mapUpdate
                 refine wpList_mapUpdate_in _ rfl _ _ _ 46 rfl 9 72 tabLaw Tryd.underlying46 argR w.heap.size _ M rfl hm ?hN _ _ (.string z) rfl rfl (tabKey (by unfold maxLen; omega)) (argD T hc) [] (argR_of T hc) ?_
                 case hN => have := HJ.out; unfold maxLen; omega
                 intro w8 hown8 hturn8)
              have hb8 := mapTurned_below hturn8 (B := B) hBm (Nat.le_trans hBw hbr7.size)
              go_roundw
              case rel => exact ⟨j + 1, by omega, by go_num, by rw [HM.out, ← List.append_assoc, HD.out]; exact ⟨hBm, _, hown8.mono (by simp only [List.length_append, List.length_singleton]; omega), HAT.out.new (d := (z, T, hc)) HH.out⟩, mapTurned_rdS hturn8 hE7, mapTurned_rdS hturn8 hr7, mapTurned_maxl hturn8 hM7, hbr7.trans hb8⟩
              case measure => simp [intOf]; omega
          | false =>
            rw [hp] at hP
            have HD : Hid (Ctl.dirOf y = (fold a, b, hc)) := Lib.hid (by rw [HD0.out, Ctl.argT_no hp])
            clear HD0 hp
            go_wp2_with fail
            refine hP.mono ?_
            rintro e w9 ⟨rfl, rfl⟩
            clear hP
            have hT4 := hT3
            have hE4 := hE3
            have hr4 := hr3
            have hM4 := hM3
            have hbr4 := hbr3
            clear hT3 hE3 hr3 hM3 hbr3
            go_wp2_with fail
            refine (fold_any a _ (by omega)).mono ?_
            rintro e w5 ⟨rfl, hb5⟩
            have hT5 := hT4.step hb5
            have hE5 := hE4.step hb5
            have hr5 := hr4.step hb5
            have hM5 := maxl_b hM4 hb5
            have hbr5 := bnext hbr4 hb5 (Nat.le_trans hBw hbr4.size)
            have hzl : (fold a).length ≤ 1048576 := by rw [fold_length]; exact hal'
            generalize fold a = z at *
            clear hT4 hE4 hr4 hM4 hbr4 hb5
            have hal5 := alloc_below w5 (.cells #[.string (bs z)] 9)
            have hC := tabhas_any w.heap.size B _ _ _ 1 1 [z] _ (hT5.step hal5) (one_rdS' w5 z 9 w5.heap.size rfl) (by omega) (by simp; omega)
            rw [List.any_cons, List.any_nil, Bool.or_false] at hC
            have hT6 := hT5.step hal5
            have hE6 := hE5.step hal5
            have hr6 := hr5.step hal5
            have hM6 := maxl_b hM5 hal5
            have hbr6 := bnext hbr5 hal5 (Nat.le_trans hBw hbr5.size)
            clear hT5 hE5 hr5 hM5 hbr5
            cases hh : Ctl.hasD (Ctl.dirsV (V.take k) ++ (E.take j).map Ctl.dirOf) z with
            | true =>
              rw [hh] at hC
              have HH := Lib.hid hh
              clear hh
              go_wp2_with fail
              refine hC.mono ?_
              rintro e w7 ⟨rfl, hb7⟩
              clear hC
              go_wp2
              go_roundw
              case rel => exact ⟨j + 1, by omega, by go_num, by rw [HM.out, ← List.append_assoc, HD.out]; exact (hT6.step hb7).old HH.out, hE6.step hb7, hr6.step hb7, maxl_b hM6 hb7, bnext hbr6 hb7 (Nat.le_trans hBw hbr6.size)⟩
              case measure => simp [intOf]; omega
            | false =>
              rw [hh] at hC
              have HH := Lib.hid hh
              clear hh
              go_wp2_with fail
              refine hC.mono ?_
              rintro e w7 ⟨rfl, hb7⟩
              clear hC
              have hE7 := hE6.step hb7
              have hr7 := hr6.step hb7
              have hM7 := maxl_b hM6 hb7
              have hbr7 := bnext hbr6 hb7 (Nat.le_trans hBw hbr6.size)
              obtain ⟨hBm, M, hm, hat⟩ := hT6.step hb7
              have HAT := Lib.hid hat
              clear hT6 hE6 hr6 hM6 hbr6 hb7 hat
              go_wp2_with
                (at_mapUpdate
                 refine wpList_mapUpdate_in _ rfl _ _ _ 46 rfl 9 72 tabLaw Tryd.underlying46 argR w.heap.size _ M rfl hm ?hN _ _ (.string z) rfl rfl (tabKey (by unfold maxLen; omega)) (argD b hc) [] (argR_of b hc) ?_
                 case hN => have := HJ.out; unfold maxLen; omega
                 intro w8 hown8 hturn8)
              have hb8 := mapTurned_below hturn8 (B := B) hBm (Nat.le_trans hBw hbr7.size)
              go_roundw
              case rel => exact ⟨j + 1, by omega, by go_num, by rw [HM.out, ← List.append_assoc, HD.out]; exact ⟨hBm, _, hown8.mono (by simp only [List.length_append, List.length_singleton]; omega), HAT.out.new (d := (z, b, hc)) HH.out⟩, mapTurned_rdS hturn8 hE7, mapTurned_rdS hturn8 hr7, mapTurned_maxl hturn8 hM7, hbr7.trans hb8⟩
              case measure => simp [intOf]; omega
        · obtain rfl : j = n2 := by omega
          go_wp2
          go_roundw
          case rel => exact ⟨k + 1, by omega, by go_num, by rw [HS.out, ← HT.out]; exact hT, hr, hM, hbr⟩
          case measure => simp [intOf]; omega
    · obtain rfl : k = n := by omega
      go_wp2
      go_ret
      exact ⟨w.heap.size, _, rfl, by rw [← HF.out]; exact hT, hbr⟩
end Go.Proofs.YtfhkgbimnfjfhaaDoor

/- control.Parse: what Cache-Control tells. Conditions: at most 2^20 fields, texts of at most 2^20 bytes; the library's variable MaxLen holds some int. -/
set_option linter.unusedVariables false
set_option linter.unusedSimpArgs false
namespace Go.Proofs.YtfhkgbimnfjfhaaDoor
open Go.RowKit

set_option maxRecDepth 100000
theorem two_rdS' (w : World) (s t : List UInt8) (T : TypeId) (k : Nat) (hk : k = w.heap.size) : RdS (w.alloc (.cells #[.string (bs s), .string (bs t)] T)) (some ⟨k, 0, none⟩) 2 [s, t] := by
  subst hk
  refine ⟨rfl, rfl, fun _ => ⟨w.heap.size, 0, rfl, by simp, fun j u hu => ?_⟩⟩
  rw [Nat.zero_add, cell_of_row _ _ _ _ T (0, 0) (heap_alloc_new w _)]
  simpa [strs, strV] using hu
theorem row_facts10 {w : World} {v0 v1 v2 v3 v4 v5 v6 v7 v8 v9 : Value} {t : TypeId} {B : Nat} (h : w.heap[B]? = some (.cells #[v0, v1, v2, v3, v4, v5, v6, v7, v8, v9] t (0, 0))) :
    w.cell? ⟨B, 0, none⟩ = some v0 ∧ w.cell? ⟨B, 1, none⟩ = some v1 ∧ w.cell? ⟨B, 2, none⟩ = some v2 ∧ w.cell? ⟨B, 3, none⟩ = some v3 ∧ w.cell? ⟨B, 4, none⟩ = some v4 ∧ w.cell? ⟨B, 5, none⟩ = some v5 ∧ w.cell? ⟨B, 6, none⟩ = some v6 ∧ w.cell? ⟨B, 7, none⟩ = some v7 ∧ w.cell? ⟨B, 8, none⟩ = some v8 ∧ w.cell? ⟨B, 9, none⟩ = some v9 ∧ w.frozen? ⟨B, 0, none⟩ = false ∧ w.frozen? ⟨B, 1, none⟩ = false ∧ w.frozen? ⟨B, 2, none⟩ = false ∧ w.frozen? ⟨B, 3, none⟩ = false ∧ w.frozen? ⟨B, 4, none⟩ = false ∧ w.frozen? ⟨B, 5, none⟩ = false ∧ w.frozen? ⟨B, 6, none⟩ = false ∧ w.frozen? ⟨B, 7, none⟩ = false ∧ w.frozen? ⟨B, 8, none⟩ = false ∧ w.frozen? ⟨B, 9, none⟩ = false := by
  refine ⟨?_, ?_, ?_, ?_, ?_, ?_, ?_, ?_, ?_, ?_, ?_, ?_, ?_, ?_, ?_, ?_, ?_, ?_, ?_, ?_⟩
  iterate 10 (rw [cell_of_row _ _ _ _ _ _ h]; rfl)
  all_goals (simp only [World.frozen?, h]; rfl)
theorem values_le' (l : List Fld) (n : List UInt8) : (valuesL l n).length ≤ l.length := values_le l n
set_option maxHeartbeats 8000000 in
theorem cparse_any (A : Option Addr) (n c : Nat) (l : List Fld) (w : World) (hM : MaxL w) (hl : RdF w A n l) (hn : n ≤ 1048576) (hls : FlenS l) :
    Calls Tryd.prog 11 #[.slice A n c] w fun e w' => e = .returned (ctV (Ctl.ctlL l)) ∧ Below w.heap.size w w' := by
  have hal := alloc_below w (.cells #[.bool false, .bool false, .bool false, .bool false, .bool false, .bool false, .int .i64 0, .int .i64 0, .int .i64 0, .int .i64 0] 33)
  have hr := heap_alloc_new w (.cells #[.bool false, .bool false, .bool false, .bool false, .bool false, .bool false, .int .i64 0, .int .i64 0, .int .i64 0, .int .i64 0] 33)
  have hC := values_own A n c l Ctl.CcN _ (hl.step hal) (by omega) hls.ok (by simp)
  have hTk := fun W (h : Below w.heap.size w W) => tokens_own A n c l Ctl.PragmaN W (hl.step h) hn hls (by simp)
  have hVn : (valuesL l Ctl.CcN).length ≤ 1048576 := by have := values_le l Ctl.CcN; rw [hl.1] at this; omega
  have hTn : (tokensL l Ctl.PragmaN).length ≤ 140737488355328 := by
    have := tokens_len (name := Ctl.PragmaN) hls
    rw [hl.1] at this
    have h2 : n * 1048577 ≤ 1048576 * 1048577 := Nat.mul_le_mul_right _ hn
    omega
  have hVl : ∀ v ∈ valuesL l Ctl.CcN, v.length ≤ 1048576 := fun v hv => values_each hls hv
  have HK : Hid (Ctl.ctlL l = Ctl.ctD (Ctl.dirsV (valuesL l Ctl.CcN)) ((valuesL l Ctl.CcN).isEmpty && inL (tokensL l Ctl.PragmaN) Ctl.noCacheN)) := Lib.hid (by
    unfold Ctl.ctlL Ctl.oldL hasL
    rw [valuesL_name (a := Ctl.CcN) (b := Ctl.ccN) (by decide), tokensL_name (a := Ctl.PragmaN) (b := Ctl.pragmaN) (by decide)])
  have hM1 := maxl_b hM hal
  clear hls hl hM
  generalize valuesL l Ctl.CcN = V at *
  generalize tokensL l Ctl.PragmaN = K at *
  have HTk := Lib.hid hTk
  have HVl := Lib.hid hVl
  clear hTk hVl
  go_enter Tryd.func11, Tryd.ntmps11
  go_wp2_with fail
  refine hC.mono ?_
  rintro e w1 ⟨A1, n1, c1, rfl, hS, hb⟩
  replace hr := row_keep hr hb
  have hbr := bnext hal hb hal.size
  have hM2 := maxl_b hM1 hb
  have hrd := hS.rd
  have hn1 : n1 ≤ 1048576 := by rw [← hrd.1]; exact hVn
  clear hC hal hb hM1 hS hVn
  have hD0 := Lib.hid (Ctl.dirsV_each HVl.out)
  go_wp2_with fail
  refine (tabread_any A1 n1 c1 V w1 hM2 hrd hn1 HVl.out).mono ?_
  rintro e w2 ⟨mb, nD, rfl, hT, hb⟩
  replace hr := row_keep hr hb
  replace hbr := bnext hbr hb hbr.size
  obtain ⟨B, hB⟩ : ∃ B, B = w1.heap.size := ⟨_, rfl⟩
  rw [← hB] at hT
  have hVe : V.isEmpty = decide (n1 = 0) := by
    rw [← hrd.1]
    cases V <;> simp
  rw [hVe] at HK
  generalize Ctl.dirsV V = D at *
  have HD := hD0
  clear hb hrd hM2 HVl hD0 hVe hB
  have hmu : (Ctl.hasD D Ctl.mustN || Ctl.hasD D Ctl.proxyN) = (Ctl.hasD D Ctl.mustN || Ctl.hasD D Ctl.proxyN) := rfl
  generalize hmu2 : (Ctl.hasD D Ctl.mustN || Ctl.hasD D Ctl.proxyN) = mu at hmu
  replace hmu := hmu2
  clear hmu2
  by_cases h0 : n1 = 0
  · subst h0
    have HK2 : Hid (Ctl.ctlL l = Ctl.ctD D (inL K Ctl.noCacheN)) := Lib.hid (by rw [HK.out]; simp)
    clear HK
    have HK := HK2
    clear HK2
    go_wp2_with fail
    refine (HTk.out _ hbr).mono ?_
    rintro e w3 ⟨A3, n3, c3, rfl, hS3, hb⟩
    replace hr := row_keep hr hb
    replace hT := hT.step hb
    replace hbr := bnext hbr hb hbr.size
    have hrd3 := hS3.rd
    have hn3 : n3 ≤ 140737488355328 := by rw [← hrd3.1]; exact hTn
    clear hb hS3 hTn HTk
    go_wp2_with fail
    refine (contains_any A3 n3 c3 K Ctl.noCacheN w3 hrd3 hn3).mono ?_
    rintro e w4 ⟨rfl, rfl⟩
    clear hrd3 hn3
    generalize inL K Ctl.noCacheN = o at *
    obtain ⟨w4, rfl⟩ : ∃ w4, w4 = w3 := ⟨_, rfl⟩
    cases hnc : Ctl.hasD D Ctl.noCacheN with
    | true =>
      have hal := alloc_below w4 (.cells #[.string (bs Ctl.noStoreN)] 9)
      have hC := tabhas_any mb B nD D _ 1 1 [Ctl.noStoreN] _ (hT.step hal) (one_rdS' w4 Ctl.noStoreN 9 w4.heap.size rfl) (by omega) (by simp)
      rw [List.any_cons, List.any_nil, Bool.or_false] at hC
      go_wp2_with fail
      refine hC.mono ?_
      rintro e w5 ⟨rfl, hb⟩
      replace hr := row_keep (row_keep hr hal) hb
      replace hT := (hT.step hal).step hb
      replace hbr := bnext (bnext hbr hal hbr.size) hb (bnext hbr hal hbr.size).size
      clear hC hal hb
      have hal := alloc_below w5 (.cells #[.string (bs Ctl.noCacheN)] 9)
      have hC := tabhas_any mb B nD D _ 1 1 [Ctl.noCacheN] _ (hT.step hal) (one_rdS' w5 Ctl.noCacheN 9 w5.heap.size rfl) (by omega) (by simp)
      rw [List.any_cons, List.any_nil, Bool.or_false] at hC
      rw [hnc] at hC
      go_wp2_with fail
      refine hC.mono ?_
      rintro e w6 ⟨rfl, hb⟩
      replace hr := row_keep (row_keep hr hal) hb
      replace hT := (hT.step hal).step hb
      replace hbr := bnext (bnext hbr hal hbr.size) hb (bnext hbr hal hbr.size).size
      clear hC hal hb
      have hal := alloc_below w6 (.cells #[.string (bs Ctl.privN)] 9)
      have hC := tabhas_any mb B nD D _ 1 1 [Ctl.privN] _ (hT.step hal) (one_rdS' w6 Ctl.privN 9 w6.heap.size rfl) (by omega) (by simp)
      rw [List.any_cons, List.any_nil, Bool.or_false] at hC
      go_wp2_with fail
      refine hC.mono ?_
      rintro e w7 ⟨rfl, hb⟩
      replace hr := row_keep (row_keep hr hal) hb
      replace hT := (hT.step hal).step hb
      replace hbr := bnext (bnext hbr hal hbr.size) hb (bnext hbr hal hbr.size).size
      clear hC hal hb
      have hal := alloc_below w7 (.cells #[.string (bs Ctl.pubN)] 9)
      have hC := tabhas_any mb B nD D _ 1 1 [Ctl.pubN] _ (hT.step hal) (one_rdS' w7 Ctl.pubN 9 w7.heap.size rfl) (by omega) (by simp)
      rw [List.any_cons, List.any_nil, Bool.or_false] at hC
      go_wp2_with fail
      refine hC.mono ?_
      rintro e w8 ⟨rfl, hb⟩
      replace hr := row_keep (row_keep hr hal) hb
      replace hT := (hT.step hal).step hb
      replace hbr := bnext (bnext hbr hal hbr.size) hb (bnext hbr hal hbr.size).size
      clear hC hal hb
      have hal := alloc_below w8 (.cells #[.string (bs Ctl.mustN), .string (bs Ctl.proxyN)] 9)
      have hC := tabhas_any mb B nD D _ 2 2 [Ctl.mustN, Ctl.proxyN] _ (hT.step hal) (two_rdS' w8 Ctl.mustN Ctl.proxyN 9 w8.heap.size rfl) (by omega) (by simp)
      rw [List.any_cons, List.any_cons, List.any_nil, Bool.or_false] at hC
      rw [hmu] at hC
      go_wp2_with fail
      refine hC.mono ?_
      rintro e w9 ⟨rfl, hb⟩
      replace hr := row_keep (row_keep hr hal) hb
      replace hT := (hT.step hal).step hb
      replace hbr := bnext (bnext hbr hal hbr.size) hb (bnext hbr hal hbr.size).size
      clear hC hal hb
      have hal := alloc_below w9 (.cells #[.string (bs Ctl.onlyN)] 9)
      have hC := tabhas_any mb B nD D _ 1 1 [Ctl.onlyN] _ (hT.step hal) (one_rdS' w9 Ctl.onlyN 9 w9.heap.size rfl) (by omega) (by simp)
      rw [List.any_cons, List.any_nil, Bool.or_false] at hC
      go_wp2_with fail
      refine hC.mono ?_
      rintro e w10 ⟨rfl, hb⟩
      replace hr := row_keep (row_keep hr hal) hb
      replace hT := (hT.step hal).step hb
      replace hbr := bnext (bnext hbr hal hbr.size) hb (bnext hbr hal hbr.size).size
      clear hC hal hb
      go_wp2_with fail
      refine (number_any mb B nD D Ctl.maxAgeN _ hT HD.out (by simp)).mono ?_
      rintro e w11 ⟨rfl, hb⟩
      replace hr := row_keep hr hb
      replace hT := hT.step hb
      replace hbr := bnext hbr hb hbr.size
      clear hb
      go_wp2_with fail
      refine (number_any mb B nD D Ctl.sMaxN _ hT HD.out (by simp)).mono ?_
      rintro e w12 ⟨rfl, hb⟩
      replace hr := row_keep hr hb
      replace hT := hT.step hb
      replace hbr := bnext hbr hb hbr.size
      clear hb
      go_wp2_with fail
      refine (number_any mb B nD D Ctl.minFreshN _ hT HD.out (by simp)).mono ?_
      rintro e w13 ⟨rfl, hb⟩
      replace hr := row_keep hr hb
      replace hT := hT.step hb
      replace hbr := bnext hbr hb hbr.size
      clear hb
      go_wp2_with fail
      refine (patience_any mb B nD D _ hT HD.out).mono ?_
      rintro e w14 ⟨rfl, hb⟩
      replace hr := row_keep hr hb
      replace hT := hT.step hb
      replace hbr := bnext hbr hb hbr.size
      clear hb
      obtain ⟨q0, q1, q2, q3, q4, q5, q6, q7, q8, q9, g0, g1, g2, g3, g4, g5, g6, g7, g8, g9⟩ := row_facts10 hr
      clear hr hT
      go_wp2
      refine bodyPost_ret (v := ctV (Ctl.ctlL l)) (by rw [HK.out]; simp [results, Tryd.results11, go_sem, q0, q1, q2, q3, q4, q5, q6, q7, q8, q9, ctV, Ctl.ctD, hnc, hmu]) rfl ⟨rfl, ?_⟩
      repeat refine Below.setCell ?_ (by simp) _
      exact hbr
    | false =>
      have hal := alloc_below w4 (.cells #[.string (bs Ctl.noStoreN)] 9)
      have hC := tabhas_any mb B nD D _ 1 1 [Ctl.noStoreN] _ (hT.step hal) (one_rdS' w4 Ctl.noStoreN 9 w4.heap.size rfl) (by omega) (by simp)
      rw [List.any_cons, List.any_nil, Bool.or_false] at hC
      go_wp2_with fail
      refine hC.mono ?_
      rintro e w5 ⟨rfl, hb⟩
      replace hr := row_keep (row_keep hr hal) hb
      replace hT := (hT.step hal).step hb
      replace hbr := bnext (bnext hbr hal hbr.size) hb (bnext hbr hal hbr.size).size
      clear hC hal hb
      have hal := alloc_below w5 (.cells #[.string (bs Ctl.noCacheN)] 9)
      have hC := tabhas_any mb B nD D _ 1 1 [Ctl.noCacheN] _ (hT.step hal) (one_rdS' w5 Ctl.noCacheN 9 w5.heap.size rfl) (by omega) (by simp)
      rw [List.any_cons, List.any_nil, Bool.or_false] at hC
      rw [hnc] at hC
      go_wp2_with fail
      refine hC.mono ?_
      rintro e w6 ⟨rfl, hb⟩
      replace hr := row_keep (row_keep hr hal) hb
      replace hT := (hT.step hal).step hb
      replace hbr := bnext (bnext hbr hal hbr.size) hb (bnext hbr hal hbr.size).size
      clear hC hal hb
      have hal := alloc_below w6 (.cells #[.string (bs Ctl.privN)] 9)
      have hC := tabhas_any mb B nD D _ 1 1 [Ctl.privN] _ (hT.step hal) (one_rdS' w6 Ctl.privN 9 w6.heap.size rfl) (by omega) (by simp)
      rw [List.any_cons, List.any_nil, Bool.or_false] at hC
      go_wp2_with fail
      refine hC.mono ?_
      rintro e w7 ⟨rfl, hb⟩
      replace hr := row_keep (row_keep hr hal) hb
      replace hT := (hT.step hal).step hb
      replace hbr := bnext (bnext hbr hal hbr.size) hb (bnext hbr hal hbr.size).size
      clear hC hal hb
      have hal := alloc_below w7 (.cells #[.string (bs Ctl.pubN)] 9)
      have hC := tabhas_any mb B nD D _ 1 1 [Ctl.pubN] _ (hT.step hal) (one_rdS' w7 Ctl.pubN 9 w7.heap.size rfl) (by omega) (by simp)
      rw [List.any_cons, List.any_nil, Bool.or_false] at hC
      go_wp2_with fail
      refine hC.mono ?_
      rintro e w8 ⟨rfl, hb⟩
      replace hr := row_keep (row_keep hr hal) hb
      replace hT := (hT.step hal).step hb
      replace hbr := bnext (bnext hbr hal hbr.size) hb (bnext hbr hal hbr.size).size
      clear hC hal hb
      have hal := alloc_below w8 (.cells #[.string (bs Ctl.mustN), .string (bs Ctl.proxyN)] 9)
      have hC := tabhas_any mb B nD D _ 2 2 [Ctl.mustN, Ctl.proxyN] _ (hT.step hal) (two_rdS' w8 Ctl.mustN Ctl.proxyN 9 w8.heap.size rfl) (by omega) (by simp)
      rw [List.any_cons, List.any_cons, List.any_nil, Bool.or_false] at hC
      rw [hmu] at hC
      go_wp2_with fail
      refine hC.mono ?_
      rintro e w9 ⟨rfl, hb⟩
      replace hr := row_keep (row_keep hr hal) hb
      replace hT := (hT.step hal).step hb
      replace hbr := bnext (bnext hbr hal hbr.size) hb (bnext hbr hal hbr.size).size
      clear hC hal hb
      have hal := alloc_below w9 (.cells #[.string (bs Ctl.onlyN)] 9)
      have hC := tabhas_any mb B nD D _ 1 1 [Ctl.onlyN] _ (hT.step hal) (one_rdS' w9 Ctl.onlyN 9 w9.heap.size rfl) (by omega) (by simp)
      rw [List.any_cons, List.any_nil, Bool.or_false] at hC
      go_wp2_with fail
      refine hC.mono ?_
      rintro e w10 ⟨rfl, hb⟩
      replace hr := row_keep (row_keep hr hal) hb
      replace hT := (hT.step hal).step hb
      replace hbr := bnext (bnext hbr hal hbr.size) hb (bnext hbr hal hbr.size).size
      clear hC hal hb
      go_wp2_with fail
      refine (number_any mb B nD D Ctl.maxAgeN _ hT HD.out (by simp)).mono ?_
      rintro e w11 ⟨rfl, hb⟩
      replace hr := row_keep hr hb
      replace hT := hT.step hb
      replace hbr := bnext hbr hb hbr.size
      clear hb
      go_wp2_with fail
      refine (number_any mb B nD D Ctl.sMaxN _ hT HD.out (by simp)).mono ?_
      rintro e w12 ⟨rfl, hb⟩
      replace hr := row_keep hr hb
      replace hT := hT.step hb
      replace hbr := bnext hbr hb hbr.size
      clear hb
      go_wp2_with fail
      refine (number_any mb B nD D Ctl.minFreshN _ hT HD.out (by simp)).mono ?_
      rintro e w13 ⟨rfl, hb⟩
      replace hr := row_keep hr hb
      replace hT := hT.step hb
      replace hbr := bnext hbr hb hbr.size
      clear hb
      go_wp2_with fail
      refine (patience_any mb B nD D _ hT HD.out).mono ?_
      rintro e w14 ⟨rfl, hb⟩
      replace hr := row_keep hr hb
      replace hT := hT.step hb
      replace hbr := bnext hbr hb hbr.size
      clear hb
      obtain ⟨q0, q1, q2, q3, q4, q5, q6, q7, q8, q9, g0, g1, g2, g3, g4, g5, g6, g7, g8, g9⟩ := row_facts10 hr
      clear hr hT
      go_wp2
      refine bodyPost_ret (v := ctV (Ctl.ctlL l)) (by rw [HK.out]; simp [results, Tryd.results11, go_sem, q0, q1, q2, q3, q4, q5, q6, q7, q8, q9, ctV, Ctl.ctD, hnc, hmu]) rfl ⟨rfl, ?_⟩
      repeat refine Below.setCell ?_ (by simp) _
      exact hbr
  · have HK2 : Hid (Ctl.ctlL l = Ctl.ctD D false) := Lib.hid (by rw [HK.out]; simp [h0])
    clear HK
    have HK := HK2
    have hn0 : ((n1 : Int) == 0) = false := by rw [beq_eq_false_iff_ne]; omega
    clear HK2 hTn HTk
    obtain ⟨w4, rfl⟩ : ∃ w4, w4 = w2 := ⟨_, rfl⟩
    cases hnc : Ctl.hasD D Ctl.noCacheN with
    | true =>
      have hal := alloc_below w4 (.cells #[.string (bs Ctl.noStoreN)] 9)
      have hC := tabhas_any mb B nD D _ 1 1 [Ctl.noStoreN] _ (hT.step hal) (one_rdS' w4 Ctl.noStoreN 9 w4.heap.size rfl) (by omega) (by simp)
      rw [List.any_cons, List.any_nil, Bool.or_false] at hC
      go_wp2_with fail
      refine hC.mono ?_
      rintro e w5 ⟨rfl, hb⟩
      replace hr := row_keep (row_keep hr hal) hb
      replace hT := (hT.step hal).step hb
      replace hbr := bnext (bnext hbr hal hbr.size) hb (bnext hbr hal hbr.size).size
      clear hC hal hb
      have hal := alloc_below w5 (.cells #[.string (bs Ctl.noCacheN)] 9)
      have hC := tabhas_any mb B nD D _ 1 1 [Ctl.noCacheN] _ (hT.step hal) (one_rdS' w5 Ctl.noCacheN 9 w5.heap.size rfl) (by omega) (by simp)
      rw [List.any_cons, List.any_nil, Bool.or_false] at hC
      rw [hnc] at hC
      go_wp2_with fail
      refine hC.mono ?_
      rintro e w6 ⟨rfl, hb⟩
      replace hr := row_keep (row_keep hr hal) hb
      replace hT := (hT.step hal).step hb
      replace hbr := bnext (bnext hbr hal hbr.size) hb (bnext hbr hal hbr.size).size
      clear hC hal hb
      have hal := alloc_below w6 (.cells #[.string (bs Ctl.privN)] 9)
      have hC := tabhas_any mb B nD D _ 1 1 [Ctl.privN] _ (hT.step hal) (one_rdS' w6 Ctl.privN 9 w6.heap.size rfl) (by omega) (by simp)
      rw [List.any_cons, List.any_nil, Bool.or_false] at hC
      go_wp2_with fail
      refine hC.mono ?_
      rintro e w7 ⟨rfl, hb⟩
      replace hr := row_keep (row_keep hr hal) hb
      replace hT := (hT.step hal).step hb
      replace hbr := bnext (bnext hbr hal hbr.size) hb (bnext hbr hal hbr.size).size
      clear hC hal hb
      have hal := alloc_below w7 (.cells #[.string (bs Ctl.pubN)] 9)
      have hC := tabhas_any mb B nD D _ 1 1 [Ctl.pubN] _ (hT.step hal) (one_rdS' w7 Ctl.pubN 9 w7.heap.size rfl) (by omega) (by simp)
      rw [List.any_cons, List.any_nil, Bool.or_false] at hC
      go_wp2_with fail
      refine hC.mono ?_
      rintro e w8 ⟨rfl, hb⟩
      replace hr := row_keep (row_keep hr hal) hb
      replace hT := (hT.step hal).step hb
      replace hbr := bnext (bnext hbr hal hbr.size) hb (bnext hbr hal hbr.size).size
      clear hC hal hb
      have hal := alloc_below w8 (.cells #[.string (bs Ctl.mustN), .string (bs Ctl.proxyN)] 9)
      have hC := tabhas_any mb B nD D _ 2 2 [Ctl.mustN, Ctl.proxyN] _ (hT.step hal) (two_rdS' w8 Ctl.mustN Ctl.proxyN 9 w8.heap.size rfl) (by omega) (by simp)
      rw [List.any_cons, List.any_cons, List.any_nil, Bool.or_false] at hC
      rw [hmu] at hC
      go_wp2_with fail
      refine hC.mono ?_
      rintro e w9 ⟨rfl, hb⟩
      replace hr := row_keep (row_keep hr hal) hb
      replace hT := (hT.step hal).step hb
      replace hbr := bnext (bnext hbr hal hbr.size) hb (bnext hbr hal hbr.size).size
      clear hC hal hb
      have hal := alloc_below w9 (.cells #[.string (bs Ctl.onlyN)] 9)
      have hC := tabhas_any mb B nD D _ 1 1 [Ctl.onlyN] _ (hT.step hal) (one_rdS' w9 Ctl.onlyN 9 w9.heap.size rfl) (by omega) (by simp)
      rw [List.any_cons, List.any_nil, Bool.or_false] at hC
      go_wp2_with fail
      refine hC.mono ?_
      rintro e w10 ⟨rfl, hb⟩
      replace hr := row_keep (row_keep hr hal) hb
      replace hT := (hT.step hal).step hb
      replace hbr := bnext (bnext hbr hal hbr.size) hb (bnext hbr hal hbr.size).size
      clear hC hal hb
      go_wp2_with fail
      refine (number_any mb B nD D Ctl.maxAgeN _ hT HD.out (by simp)).mono ?_
      rintro e w11 ⟨rfl, hb⟩
      replace hr := row_keep hr hb
      replace hT := hT.step hb
      replace hbr := bnext hbr hb hbr.size
      clear hb
      go_wp2_with fail
      refine (number_any mb B nD D Ctl.sMaxN _ hT HD.out (by simp)).mono ?_
      rintro e w12 ⟨rfl, hb⟩
      replace hr := row_keep hr hb
      replace hT := hT.step hb
      replace hbr := bnext hbr hb hbr.size
      clear hb
      go_wp2_with fail
      refine (number_any mb B nD D Ctl.minFreshN _ hT HD.out (by simp)).mono ?_
      rintro e w13 ⟨rfl, hb⟩
      replace hr := row_keep hr hb
      replace hT := hT.step hb
      replace hbr := bnext hbr hb hbr.size
      clear hb
      go_wp2_with fail
      refine (patience_any mb B nD D _ hT HD.out).mono ?_
      rintro e w14 ⟨rfl, hb⟩
      replace hr := row_keep hr hb
      replace hT := hT.step hb
      replace hbr := bnext hbr hb hbr.size
      clear hb
      obtain ⟨q0, q1, q2, q3, q4, q5, q6, q7, q8, q9, g0, g1, g2, g3, g4, g5, g6, g7, g8, g9⟩ := row_facts10 hr
      clear hr hT
      go_wp2
      refine bodyPost_ret (v := ctV (Ctl.ctlL l)) (by rw [HK.out]; simp [results, Tryd.results11, go_sem, q0, q1, q2, q3, q4, q5, q6, q7, q8, q9, ctV, Ctl.ctD, hnc, hmu]) rfl ⟨rfl, ?_⟩
      repeat refine Below.setCell ?_ (by simp) _
      exact hbr
    | false =>
      have hal := alloc_below w4 (.cells #[.string (bs Ctl.noStoreN)] 9)
      have hC := tabhas_any mb B nD D _ 1 1 [Ctl.noStoreN] _ (hT.step hal) (one_rdS' w4 Ctl.noStoreN 9 w4.heap.size rfl) (by omega) (by simp)
      rw [List.any_cons, List.any_nil, Bool.or_false] at hC
      go_wp2_with fail
      refine hC.mono ?_
      rintro e w5 ⟨rfl, hb⟩
      replace hr := row_keep (row_keep hr hal) hb
      replace hT := (hT.step hal).step hb
      replace hbr := bnext (bnext hbr hal hbr.size) hb (bnext hbr hal hbr.size).size
      clear hC hal hb
      have hal := alloc_below w5 (.cells #[.string (bs Ctl.noCacheN)] 9)
      have hC := tabhas_any mb B nD D _ 1 1 [Ctl.noCacheN] _ (hT.step hal) (one_rdS' w5 Ctl.noCacheN 9 w5.heap.size rfl) (by omega) (by simp)
      rw [List.any_cons, List.any_nil, Bool.or_false] at hC
      rw [hnc] at hC
      go_wp2_with fail
      refine hC.mono ?_
      rintro e w6 ⟨rfl, hb⟩
      replace hr := row_keep (row_keep hr hal) hb
      replace hT := (hT.step hal).step hb
      replace hbr := bnext (bnext hbr hal hbr.size) hb (bnext hbr hal hbr.size).size
      clear hC hal hb
      have hal := alloc_below w6 (.cells #[.string (bs Ctl.privN)] 9)
      have hC := tabhas_any mb B nD D _ 1 1 [Ctl.privN] _ (hT.step hal) (one_rdS' w6 Ctl.privN 9 w6.heap.size rfl) (by omega) (by simp)
      rw [List.any_cons, List.any_nil, Bool.or_false] at hC
      go_wp2_with fail
      refine hC.mono ?_
      rintro e w7 ⟨rfl, hb⟩
      replace hr := row_keep (row_keep hr hal) hb
      replace hT := (hT.step hal).step hb
      replace hbr := bnext (bnext hbr hal hbr.size) hb (bnext hbr hal hbr.size).size
      clear hC hal hb
      have hal := alloc_below w7 (.cells #[.string (bs Ctl.pubN)] 9)
      have hC := tabhas_any mb B nD D _ 1 1 [Ctl.pubN] _ (hT.step hal) (one_rdS' w7 Ctl.pubN 9 w7.heap.size rfl) (by omega) (by simp)
      rw [List.any_cons, List.any_nil, Bool.or_false] at hC
      go_wp2_with fail
      refine hC.mono ?_
      rintro e w8 ⟨rfl, hb⟩
      replace hr := row_keep (row_keep hr hal) hb
      replace hT := (hT.step hal).step hb
      replace hbr := bnext (bnext hbr hal hbr.size) hb (bnext hbr hal hbr.size).size
      clear hC hal hb
      have hal := alloc_below w8 (.cells #[.string (bs Ctl.mustN), .string (bs Ctl.proxyN)] 9)
      have hC := tabhas_any mb B nD D _ 2 2 [Ctl.mustN, Ctl.proxyN] _ (hT.step hal) (two_rdS' w8 Ctl.mustN Ctl.proxyN 9 w8.heap.size rfl) (by omega) (by simp)
      rw [List.any_cons, List.any_cons, List.any_nil, Bool.or_false] at hC
      rw [hmu] at hC
      go_wp2_with fail
      refine hC.mono ?_
      rintro e w9 ⟨rfl, hb⟩
      replace hr := row_keep (row_keep hr hal) hb
      replace hT := (hT.step hal).step hb
      replace hbr := bnext (bnext hbr hal hbr.size) hb (bnext hbr hal hbr.size).size
      clear hC hal hb
      have hal := alloc_below w9 (.cells #[.string (bs Ctl.onlyN)] 9)
      have hC := tabhas_any mb B nD D _ 1 1 [Ctl.onlyN] _ (hT.step hal) (one_rdS' w9 Ctl.onlyN 9 w9.heap.size rfl) (by omega) (by simp)
      rw [List.any_cons, List.any_nil, Bool.or_false] at hC
      go_wp2_with fail
      refine hC.mono ?_
      rintro e w10 ⟨rfl, hb⟩
      replace hr := row_keep (row_keep hr hal) hb
      replace hT := (hT.step hal).step hb
      replace hbr := bnext (bnext hbr hal hbr.size) hb (bnext hbr hal hbr.size).size
      clear hC hal hb
      go_wp2_with fail
      refine (number_any mb B nD D Ctl.maxAgeN _ hT HD.out (by simp)).mono ?_
      rintro e w11 ⟨rfl, hb⟩
      replace hr := row_keep hr hb
      replace hT := hT.step hb
      replace hbr := bnext hbr hb hbr.size
      clear hb
      go_wp2_with fail
      refine (number_any mb B nD D Ctl.sMaxN _ hT HD.out (by simp)).mono ?_
      rintro e w12 ⟨rfl, hb⟩
      replace hr := row_keep hr hb
      replace hT := hT.step hb
      replace hbr := bnext hbr hb hbr.size
      clear hb
      go_wp2_with fail
      refine (number_any mb B nD D Ctl.minFreshN _ hT HD.out (by simp)).mono ?_
      rintro e w13 ⟨rfl, hb⟩
      replace hr := row_keep hr hb
      replace hT := hT.step hb
      replace hbr := bnext hbr hb hbr.size
      clear hb
      go_wp2_with fail
      refine (patience_any mb B nD D _ hT HD.out).mono ?_
      rintro e w14 ⟨rfl, hb⟩
      replace hr := row_keep hr hb
      replace hT := hT.step hb
      replace hbr := bnext hbr hb hbr.size
      clear hb
      obtain ⟨q0, q1, q2, q3, q4, q5, q6, q7, q8, q9, g0, g1, g2, g3, g4, g5, g6, g7, g8, g9⟩ := row_facts10 hr
      clear hr hT
      go_wp2
      refine bodyPost_ret (v := ctV (Ctl.ctlL l)) (by rw [HK.out]; simp [results, Tryd.results11, go_sem, q0, q1, q2, q3, q4, q5, q6, q7, q8, q9, ctV, Ctl.ctD, hnc, hmu]) rfl ⟨rfl, ?_⟩
      repeat refine Below.setCell ?_ (by simp) _
      exact hbr
end Go.Proofs.YtfhkgbimnfjfhaaDoor

