/- Joined texts: control.Parse: what Cache-Control tells. The conditions stand in each line. -/
import Derived.Test.YtfhkgbimnfjfhaaGreatDoorM11
import Derived.Test.YtfhkgbimnfjfhaaGreatDoorM14
import Derived.Test.YtfhkgbimnfjfhaaGreatDoorM15
set_option linter.unusedVariables false
set_option linter.unusedSimpArgs false
namespace Go.Proofs.YtfhkgbimnfjfhaaGreatDoor
open Go.RowKit

set_option maxRecDepth 100000
theorem two_rdS' (w : World) (s t : List UInt8) (T : TypeId) (k : Nat) (hk : k = w.heap.size) : RdS (w.alloc (.cells #[.string (bs s), .string (bs t)] T)) (some ⟨k, 0, none⟩) 2 [s, t] := by
  subst hk
  refine ⟨rfl, rfl, fun _ => ⟨w.heap.size, 0, rfl, by simp, fun j u hu => ?_⟩⟩
  rw [Nat.zero_add, cell_of_row _ _ _ _ T (0, 0) (heap_alloc_new w _)]
  simpa [strs, strV] using hu
theorem row_facts10 {w : World} {v0 v1 v2 v3 v4 v5 v6 v7 v8 v9 : Value} {t : TypeId} {B : Nat} (h : w.heap[B]? = some (.cells #[v0, v1, v2, v3, v4, v5, v6, v7, v8, v9] t (0, 0))) :
    w.cell? ⟨B, 0, none⟩ = some v0 ∧ w.cell? ⟨B, 1, none⟩ = some v1 ∧ w.cell? ⟨B, 2, none⟩ = some v2 ∧ w.cell? ⟨B, 3, none⟩ = some v3 ∧ w.cell? ⟨B, 4, none⟩ = some v4 ∧ w.cell? ⟨B, 5, none⟩ = some v5 ∧ w.cell? ⟨B, 6, none⟩ = some v6 ∧ w.cell? ⟨B, 7, none⟩ = some v7 ∧ w.cell? ⟨B, 8, none⟩ = some v8 ∧ w.cell? ⟨B, 9, none⟩ = some v9 ∧ w.frozen? ⟨B, 0, none⟩ = false ∧ w.frozen? ⟨B, 1, none⟩ = false ∧ w.frozen? ⟨B, 2, none⟩ = false ∧ w.frozen? ⟨B, 3, none⟩ = false ∧ w.frozen? ⟨B, 4, none⟩ = false ∧ w.frozen? ⟨B, 5, none⟩ = false ∧ w.frozen? ⟨B, 6, none⟩ = false ∧ w.frozen? ⟨B, 7, none⟩ = false ∧ w.frozen? ⟨B, 8, none⟩ = false ∧ w.frozen? ⟨B, 9, none⟩ = false := by
  refine ⟨?_, ?_, ?_, ?_, ?_, ?_, ?_, ?_, ?_, ?_, ?_, ?_, ?_, ?_, ?_, ?_, ?_, ?_, ?_, ?_⟩
  iterate 10 (rw [cell_of_row _ _ _ _ _ _ h]; rfl)
  all_goals (simp only [World.frozen?, h]; rfl)
theorem values_le' (l : List Fld) (n : List UInt8) : (valuesL l n).length ≤ l.length := values_le l n
set_option maxHeartbeats 8000000 in
theorem cparse_any (A : Option Addr) (n c : Nat) (l : List Fld) (w : World) (hM : MaxL w) (hl : RdF w A n l) (hn : n ≤ 1048576) (hls : FlenS l) :
    Calls Tryz.prog 18 #[.slice A n c] w fun e w' => e = .returned (ctV (Ctl.ctlL l)) ∧ Below w.heap.size w w' := by
  have hal := alloc_below w (.cells #[.bool false, .bool false, .bool false, .bool false, .bool false, .bool false, .int .i64 0, .int .i64 0, .int .i64 0, .int .i64 0] 37)
  have hr := heap_alloc_new w (.cells #[.bool false, .bool false, .bool false, .bool false, .bool false, .bool false, .int .i64 0, .int .i64 0, .int .i64 0, .int .i64 0] 37)
  have hC := values_own A n c l Ctl.CcN _ (hl.step hal) (by omega) hls.ok (by simp)
  have hTk := fun W (h : Below w.heap.size w W) => tokens_own A n c l Ctl.PragmaN W (hl.step h) hn hls (by simp)
  have hVn : (valuesL l Ctl.CcN).length ≤ 1048576 := by have := values_le l Ctl.CcN; rw [hl.1] at this; omega
  have hTn : (tokensL l Ctl.PragmaN).length ≤ 140737488355328 := by
    have := tokens_len (name := Ctl.PragmaN) hls
    rw [hl.1] at this
    have h2 : n * 1048577 ≤ 1048576 * 1048577 := Nat.mul_le_mul_right _ hn
    omega
  have hVl : ∀ v ∈ valuesL l Ctl.CcN, v.length ≤ 1048576 := fun v hv => values_each hls hv
  have HK : Hid (Ctl.ctlL l = Ctl.ctD (Ctl.dirsV (valuesL l Ctl.CcN)) ((valuesL l Ctl.CcN).isEmpty && inL (tokensL l Ctl.PragmaN) Ctl.noCacheN)) := Lib.hid (by
    unfold Ctl.ctlL Ctl.oldL hasL
    rw [valuesL_name (a := Ctl.CcN) (b := Ctl.ccN) (by decide), tokensL_name (a := Ctl.PragmaN) (b := Ctl.pragmaN) (by decide)])
  have hM1 := maxl_b hM hal
  clear hls hl hM
  generalize valuesL l Ctl.CcN = V at *
  generalize tokensL l Ctl.PragmaN = K at *
  have HTk := Lib.hid hTk
  have HVl := Lib.hid hVl
  clear hTk hVl
  go_enter Tryz.func18, Tryz.ntmps18
  go_wp2_with fail
  refine hC.mono ?_
  rintro e w1 ⟨A1, n1, c1, rfl, hS, hb⟩
  replace hr := row_keep hr hb
  have hbr := bnext hal hb hal.size
  have hM2 := maxl_b hM1 hb
  have hrd := hS.rd
  have hn1 : n1 ≤ 1048576 := by rw [← hrd.1]; exact hVn
  clear hC hal hb hM1 hS hVn
  have hD0 := Lib.hid (Ctl.dirsV_each HVl.out)
  go_wp2_with fail
  refine (tabread_any A1 n1 c1 V w1 hM2 hrd hn1 HVl.out).mono ?_
  rintro e w2 ⟨mb, nD, rfl, hT, hb⟩
  replace hr := row_keep hr hb
  replace hbr := bnext hbr hb hbr.size
  obtain ⟨B, hB⟩ : ∃ B, B = w1.heap.size := ⟨_, rfl⟩
  rw [← hB] at hT
  have hVe : V.isEmpty = decide (n1 = 0) := by
    rw [← hrd.1]
    cases V <;> simp
  rw [hVe] at HK
  generalize Ctl.dirsV V = D at *
  have HD := hD0
  clear hb hrd hM2 HVl hD0 hVe hB
  have hmu : (Ctl.hasD D Ctl.mustN || Ctl.hasD D Ctl.proxyN) = (Ctl.hasD D Ctl.mustN || Ctl.hasD D Ctl.proxyN) := rfl
  generalize hmu2 : (Ctl.hasD D Ctl.mustN || Ctl.hasD D Ctl.proxyN) = mu at hmu
  replace hmu := hmu2
  clear hmu2
  by_cases h0 : n1 = 0
  · subst h0
    have HK2 : Hid (Ctl.ctlL l = Ctl.ctD D (inL K Ctl.noCacheN)) := Lib.hid (by rw [HK.out]; simp)
    clear HK
    have HK := HK2
    clear HK2
    go_wp2_with fail
    refine (HTk.out _ hbr).mono ?_
    rintro e w3 ⟨A3, n3, c3, rfl, hS3, hb⟩
    replace hr := row_keep hr hb
    replace hT := hT.step hb
    replace hbr := bnext hbr hb hbr.size
    have hrd3 := hS3.rd
    have hn3 : n3 ≤ 140737488355328 := by rw [← hrd3.1]; exact hTn
    clear hb hS3 hTn HTk
    go_wp2_with fail
    refine (contains_any A3 n3 c3 K Ctl.noCacheN w3 hrd3 hn3).mono ?_
    rintro e w4 ⟨rfl, rfl⟩
    clear hrd3 hn3
    generalize inL K Ctl.noCacheN = o at *
    obtain ⟨w4, rfl⟩ : ∃ w4, w4 = w3 := ⟨_, rfl⟩
    cases hnc : Ctl.hasD D Ctl.noCacheN with
    | true =>
      have hal := alloc_below w4 (.cells #[.string (bs Ctl.noStoreN)] 9)
      have hC := tabhas_any mb B nD D _ 1 1 [Ctl.noStoreN] _ (hT.step hal) (one_rdS' w4 Ctl.noStoreN 9 w4.heap.size rfl) (by omega) (by simp)
      rw [List.any_cons, List.any_nil, Bool.or_false] at hC
      go_wp2_with fail
      refine hC.mono ?_
      rintro e w5 ⟨rfl, hb⟩
      replace hr := row_keep (row_keep hr hal) hb
      replace hT := (hT.step hal).step hb
      replace hbr := bnext (bnext hbr hal hbr.size) hb (bnext hbr hal hbr.size).size
      clear hC hal hb
      have hal := alloc_below w5 (.cells #[.string (bs Ctl.noCacheN)] 9)
      have hC := tabhas_any mb B nD D _ 1 1 [Ctl.noCacheN] _ (hT.step hal) (one_rdS' w5 Ctl.noCacheN 9 w5.heap.size rfl) (by omega) (by simp)
      rw [List.any_cons, List.any_nil, Bool.or_false] at hC
      rw [hnc] at hC
      go_wp2_with fail
      refine hC.mono ?_
      rintro e w6 ⟨rfl, hb⟩
      replace hr := row_keep (row_keep hr hal) hb
      replace hT := (hT.step hal).step hb
      replace hbr := bnext (bnext hbr hal hbr.size) hb (bnext hbr hal hbr.size).size
      clear hC hal hb
      have hal := alloc_below w6 (.cells #[.string (bs Ctl.privN)] 9)
      have hC := tabhas_any mb B nD D _ 1 1 [Ctl.privN] _ (hT.step hal) (one_rdS' w6 Ctl.privN 9 w6.heap.size rfl) (by omega) (by simp)
      rw [List.any_cons, List.any_nil, Bool.or_false] at hC
      go_wp2_with fail
      refine hC.mono ?_
      rintro e w7 ⟨rfl, hb⟩
      replace hr := row_keep (row_keep hr hal) hb
      replace hT := (hT.step hal).step hb
      replace hbr := bnext (bnext hbr hal hbr.size) hb (bnext hbr hal hbr.size).size
      clear hC hal hb
      have hal := alloc_below w7 (.cells #[.string (bs Ctl.pubN)] 9)
      have hC := tabhas_any mb B nD D _ 1 1 [Ctl.pubN] _ (hT.step hal) (one_rdS' w7 Ctl.pubN 9 w7.heap.size rfl) (by omega) (by simp)
      rw [List.any_cons, List.any_nil, Bool.or_false] at hC
      go_wp2_with fail
      refine hC.mono ?_
      rintro e w8 ⟨rfl, hb⟩
      replace hr := row_keep (row_keep hr hal) hb
      replace hT := (hT.step hal).step hb
      replace hbr := bnext (bnext hbr hal hbr.size) hb (bnext hbr hal hbr.size).size
      clear hC hal hb
      have hal := alloc_below w8 (.cells #[.string (bs Ctl.mustN), .string (bs Ctl.proxyN)] 9)
      have hC := tabhas_any mb B nD D _ 2 2 [Ctl.mustN, Ctl.proxyN] _ (hT.step hal) (two_rdS' w8 Ctl.mustN Ctl.proxyN 9 w8.heap.size rfl) (by omega) (by simp)
      rw [List.any_cons, List.any_cons, List.any_nil, Bool.or_false] at hC
      rw [hmu] at hC
      go_wp2_with fail
      refine hC.mono ?_
      rintro e w9 ⟨rfl, hb⟩
      replace hr := row_keep (row_keep hr hal) hb
      replace hT := (hT.step hal).step hb
      replace hbr := bnext (bnext hbr hal hbr.size) hb (bnext hbr hal hbr.size).size
      clear hC hal hb
      have hal := alloc_below w9 (.cells #[.string (bs Ctl.onlyN)] 9)
      have hC := tabhas_any mb B nD D _ 1 1 [Ctl.onlyN] _ (hT.step hal) (one_rdS' w9 Ctl.onlyN 9 w9.heap.size rfl) (by omega) (by simp)
      rw [List.any_cons, List.any_nil, Bool.or_false] at hC
      go_wp2_with fail
      refine hC.mono ?_
      rintro e w10 ⟨rfl, hb⟩
      replace hr := row_keep (row_keep hr hal) hb
      replace hT := (hT.step hal).step hb
      replace hbr := bnext (bnext hbr hal hbr.size) hb (bnext hbr hal hbr.size).size
      clear hC hal hb
      go_wp2_with fail
      refine (number_any mb B nD D Ctl.maxAgeN _ hT HD.out (by simp)).mono ?_
      rintro e w11 ⟨rfl, hb⟩
      replace hr := row_keep hr hb
      replace hT := hT.step hb
      replace hbr := bnext hbr hb hbr.size
      clear hb
      go_wp2_with fail
      refine (number_any mb B nD D Ctl.sMaxN _ hT HD.out (by simp)).mono ?_
      rintro e w12 ⟨rfl, hb⟩
      replace hr := row_keep hr hb
      replace hT := hT.step hb
      replace hbr := bnext hbr hb hbr.size
      clear hb
      go_wp2_with fail
      refine (number_any mb B nD D Ctl.minFreshN _ hT HD.out (by simp)).mono ?_
      rintro e w13 ⟨rfl, hb⟩
      replace hr := row_keep hr hb
      replace hT := hT.step hb
      replace hbr := bnext hbr hb hbr.size
      clear hb
      go_wp2_with fail
      refine (patience_any mb B nD D _ hT HD.out).mono ?_
      rintro e w14 ⟨rfl, hb⟩
      replace hr := row_keep hr hb
      replace hT := hT.step hb
      replace hbr := bnext hbr hb hbr.size
      clear hb
      obtain ⟨q0, q1, q2, q3, q4, q5, q6, q7, q8, q9, g0, g1, g2, g3, g4, g5, g6, g7, g8, g9⟩ := row_facts10 hr
      clear hr hT
      go_wp2
      refine bodyPost_ret (v := ctV (Ctl.ctlL l)) (by rw [HK.out]; simp [results, Tryz.results18, go_sem, q0, q1, q2, q3, q4, q5, q6, q7, q8, q9, ctV, Ctl.ctD, hnc, hmu]) rfl ⟨rfl, ?_⟩
      repeat refine Below.setCell ?_ (by simp) _
      exact hbr
    | false =>
      have hal := alloc_below w4 (.cells #[.string (bs Ctl.noStoreN)] 9)
      have hC := tabhas_any mb B nD D _ 1 1 [Ctl.noStoreN] _ (hT.step hal) (one_rdS' w4 Ctl.noStoreN 9 w4.heap.size rfl) (by omega) (by simp)
      rw [List.any_cons, List.any_nil, Bool.or_false] at hC
      go_wp2_with fail
      refine hC.mono ?_
      rintro e w5 ⟨rfl, hb⟩
      replace hr := row_keep (row_keep hr hal) hb
      replace hT := (hT.step hal).step hb
      replace hbr := bnext (bnext hbr hal hbr.size) hb (bnext hbr hal hbr.size).size
      clear hC hal hb
      have hal := alloc_below w5 (.cells #[.string (bs Ctl.noCacheN)] 9)
      have hC := tabhas_any mb B nD D _ 1 1 [Ctl.noCacheN] _ (hT.step hal) (one_rdS' w5 Ctl.noCacheN 9 w5.heap.size rfl) (by omega) (by simp)
      rw [List.any_cons, List.any_nil, Bool.or_false] at hC
      rw [hnc] at hC
      go_wp2_with fail
      refine hC.mono ?_
      rintro e w6 ⟨rfl, hb⟩
      replace hr := row_keep (row_keep hr hal) hb
      replace hT := (hT.step hal).step hb
      replace hbr := bnext (bnext hbr hal hbr.size) hb (bnext hbr hal hbr.size).size
      clear hC hal hb
      have hal := alloc_below w6 (.cells #[.string (bs Ctl.privN)] 9)
      have hC := tabhas_any mb B nD D _ 1 1 [Ctl.privN] _ (hT.step hal) (one_rdS' w6 Ctl.privN 9 w6.heap.size rfl) (by omega) (by simp)
      rw [List.any_cons, List.any_nil, Bool.or_false] at hC
      go_wp2_with fail
      refine hC.mono ?_
      rintro e w7 ⟨rfl, hb⟩
      replace hr := row_keep (row_keep hr hal) hb
      replace hT := (hT.step hal).step hb
      replace hbr := bnext (bnext hbr hal hbr.size) hb (bnext hbr hal hbr.size).size
      clear hC hal hb
      have hal := alloc_below w7 (.cells #[.string (bs Ctl.pubN)] 9)
      have hC := tabhas_any mb B nD D _ 1 1 [Ctl.pubN] _ (hT.step hal) (one_rdS' w7 Ctl.pubN 9 w7.heap.size rfl) (by omega) (by simp)
      rw [List.any_cons, List.any_nil, Bool.or_false] at hC
      go_wp2_with fail
      refine hC.mono ?_
      rintro e w8 ⟨rfl, hb⟩
      replace hr := row_keep (row_keep hr hal) hb
      replace hT := (hT.step hal).step hb
      replace hbr := bnext (bnext hbr hal hbr.size) hb (bnext hbr hal hbr.size).size
      clear hC hal hb
      have hal := alloc_below w8 (.cells #[.string (bs Ctl.mustN), .string (bs Ctl.proxyN)] 9)
      have hC := tabhas_any mb B nD D _ 2 2 [Ctl.mustN, Ctl.proxyN] _ (hT.step hal) (two_rdS' w8 Ctl.mustN Ctl.proxyN 9 w8.heap.size rfl) (by omega) (by simp)
      rw [List.any_cons, List.any_cons, List.any_nil, Bool.or_false] at hC
      rw [hmu] at hC
      go_wp2_with fail
      refine hC.mono ?_
      rintro e w9 ⟨rfl, hb⟩
      replace hr := row_keep (row_keep hr hal) hb
      replace hT := (hT.step hal).step hb
      replace hbr := bnext (bnext hbr hal hbr.size) hb (bnext hbr hal hbr.size).size
      clear hC hal hb
      have hal := alloc_below w9 (.cells #[.string (bs Ctl.onlyN)] 9)
      have hC := tabhas_any mb B nD D _ 1 1 [Ctl.onlyN] _ (hT.step hal) (one_rdS' w9 Ctl.onlyN 9 w9.heap.size rfl) (by omega) (by simp)
      rw [List.any_cons, List.any_nil, Bool.or_false] at hC
      go_wp2_with fail
      refine hC.mono ?_
      rintro e w10 ⟨rfl, hb⟩
      replace hr := row_keep (row_keep hr hal) hb
      replace hT := (hT.step hal).step hb
      replace hbr := bnext (bnext hbr hal hbr.size) hb (bnext hbr hal hbr.size).size
      clear hC hal hb
      go_wp2_with fail
      refine (number_any mb B nD D Ctl.maxAgeN _ hT HD.out (by simp)).mono ?_
      rintro e w11 ⟨rfl, hb⟩
      replace hr := row_keep hr hb
      replace hT := hT.step hb
      replace hbr := bnext hbr hb hbr.size
      clear hb
      go_wp2_with fail
      refine (number_any mb B nD D Ctl.sMaxN _ hT HD.out (by simp)).mono ?_
      rintro e w12 ⟨rfl, hb⟩
      replace hr := row_keep hr hb
      replace hT := hT.step hb
      replace hbr := bnext hbr hb hbr.size
      clear hb
      go_wp2_with fail
      refine (number_any mb B nD D Ctl.minFreshN _ hT HD.out (by simp)).mono ?_
      rintro e w13 ⟨rfl, hb⟩
      replace hr := row_keep hr hb
      replace hT := hT.step hb
      replace hbr := bnext hbr hb hbr.size
      clear hb
      go_wp2_with fail
      refine (patience_any mb B nD D _ hT HD.out).mono ?_
      rintro e w14 ⟨rfl, hb⟩
      replace hr := row_keep hr hb
      replace hT := hT.step hb
      replace hbr := bnext hbr hb hbr.size
      clear hb
      obtain ⟨q0, q1, q2, q3, q4, q5, q6, q7, q8, q9, g0, g1, g2, g3, g4, g5, g6, g7, g8, g9⟩ := row_facts10 hr
      clear hr hT
      go_wp2
      refine bodyPost_ret (v := ctV (Ctl.ctlL l)) (by rw [HK.out]; simp [results, Tryz.results18, go_sem, q0, q1, q2, q3, q4, q5, q6, q7, q8, q9, ctV, Ctl.ctD, hnc, hmu]) rfl ⟨rfl, ?_⟩
      repeat refine Below.setCell ?_ (by simp) _
      exact hbr
  · have HK2 : Hid (Ctl.ctlL l = Ctl.ctD D false) := Lib.hid (by rw [HK.out]; simp [h0])
    clear HK
    have HK := HK2
    have hn0 : ((n1 : Int) == 0) = false := by rw [beq_eq_false_iff_ne]; omega
    clear HK2 hTn HTk
    obtain ⟨w4, rfl⟩ : ∃ w4, w4 = w2 := ⟨_, rfl⟩
    cases hnc : Ctl.hasD D Ctl.noCacheN with
    | true =>
      have hal := alloc_below w4 (.cells #[.string (bs Ctl.noStoreN)] 9)
      have hC := tabhas_any mb B nD D _ 1 1 [Ctl.noStoreN] _ (hT.step hal) (one_rdS' w4 Ctl.noStoreN 9 w4.heap.size rfl) (by omega) (by simp)
      rw [List.any_cons, List.any_nil, Bool.or_false] at hC
      go_wp2_with fail
      refine hC.mono ?_
      rintro e w5 ⟨rfl, hb⟩
      replace hr := row_keep (row_keep hr hal) hb
      replace hT := (hT.step hal).step hb
      replace hbr := bnext (bnext hbr hal hbr.size) hb (bnext hbr hal hbr.size).size
      clear hC hal hb
      have hal := alloc_below w5 (.cells #[.string (bs Ctl.noCacheN)] 9)
      have hC := tabhas_any mb B nD D _ 1 1 [Ctl.noCacheN] _ (hT.step hal) (one_rdS' w5 Ctl.noCacheN 9 w5.heap.size rfl) (by omega) (by simp)
      rw [List.any_cons, List.any_nil, Bool.or_false] at hC
      rw [hnc] at hC
      go_wp2_with fail
      refine hC.mono ?_
      rintro e w6 ⟨rfl, hb⟩
      replace hr := row_keep (row_keep hr hal) hb
      replace hT := (hT.step hal).step hb
      replace hbr := bnext (bnext hbr hal hbr.size) hb (bnext hbr hal hbr.size).size
      clear hC hal hb
      have hal := alloc_below w6 (.cells #[.string (bs Ctl.privN)] 9)
      have hC := tabhas_any mb B nD D _ 1 1 [Ctl.privN] _ (hT.step hal) (one_rdS' w6 Ctl.privN 9 w6.heap.size rfl) (by omega) (by simp)
      rw [List.any_cons, List.any_nil, Bool.or_false] at hC
      go_wp2_with fail
      refine hC.mono ?_
      rintro e w7 ⟨rfl, hb⟩
      replace hr := row_keep (row_keep hr hal) hb
      replace hT := (hT.step hal).step hb
      replace hbr := bnext (bnext hbr hal hbr.size) hb (bnext hbr hal hbr.size).size
      clear hC hal hb
      have hal := alloc_below w7 (.cells #[.string (bs Ctl.pubN)] 9)
      have hC := tabhas_any mb B nD D _ 1 1 [Ctl.pubN] _ (hT.step hal) (one_rdS' w7 Ctl.pubN 9 w7.heap.size rfl) (by omega) (by simp)
      rw [List.any_cons, List.any_nil, Bool.or_false] at hC
      go_wp2_with fail
      refine hC.mono ?_
      rintro e w8 ⟨rfl, hb⟩
      replace hr := row_keep (row_keep hr hal) hb
      replace hT := (hT.step hal).step hb
      replace hbr := bnext (bnext hbr hal hbr.size) hb (bnext hbr hal hbr.size).size
      clear hC hal hb
      have hal := alloc_below w8 (.cells #[.string (bs Ctl.mustN), .string (bs Ctl.proxyN)] 9)
      have hC := tabhas_any mb B nD D _ 2 2 [Ctl.mustN, Ctl.proxyN] _ (hT.step hal) (two_rdS' w8 Ctl.mustN Ctl.proxyN 9 w8.heap.size rfl) (by omega) (by simp)
      rw [List.any_cons, List.any_cons, List.any_nil, Bool.or_false] at hC
      rw [hmu] at hC
      go_wp2_with fail
      refine hC.mono ?_
      rintro e w9 ⟨rfl, hb⟩
      replace hr := row_keep (row_keep hr hal) hb
      replace hT := (hT.step hal).step hb
      replace hbr := bnext (bnext hbr hal hbr.size) hb (bnext hbr hal hbr.size).size
      clear hC hal hb
      have hal := alloc_below w9 (.cells #[.string (bs Ctl.onlyN)] 9)
      have hC := tabhas_any mb B nD D _ 1 1 [Ctl.onlyN] _ (hT.step hal) (one_rdS' w9 Ctl.onlyN 9 w9.heap.size rfl) (by omega) (by simp)
      rw [List.any_cons, List.any_nil, Bool.or_false] at hC
      go_wp2_with fail
      refine hC.mono ?_
      rintro e w10 ⟨rfl, hb⟩
      replace hr := row_keep (row_keep hr hal) hb
      replace hT := (hT.step hal).step hb
      replace hbr := bnext (bnext hbr hal hbr.size) hb (bnext hbr hal hbr.size).size
      clear hC hal hb
      go_wp2_with fail
      refine (number_any mb B nD D Ctl.maxAgeN _ hT HD.out (by simp)).mono ?_
      rintro e w11 ⟨rfl, hb⟩
      replace hr := row_keep hr hb
      replace hT := hT.step hb
      replace hbr := bnext hbr hb hbr.size
      clear hb
      go_wp2_with fail
      refine (number_any mb B nD D Ctl.sMaxN _ hT HD.out (by simp)).mono ?_
      rintro e w12 ⟨rfl, hb⟩
      replace hr := row_keep hr hb
      replace hT := hT.step hb
      replace hbr := bnext hbr hb hbr.size
      clear hb
      go_wp2_with fail
      refine (number_any mb B nD D Ctl.minFreshN _ hT HD.out (by simp)).mono ?_
      rintro e w13 ⟨rfl, hb⟩
      replace hr := row_keep hr hb
      replace hT := hT.step hb
      replace hbr := bnext hbr hb hbr.size
      clear hb
      go_wp2_with fail
      refine (patience_any mb B nD D _ hT HD.out).mono ?_
      rintro e w14 ⟨rfl, hb⟩
      replace hr := row_keep hr hb
      replace hT := hT.step hb
      replace hbr := bnext hbr hb hbr.size
      clear hb
      obtain ⟨q0, q1, q2, q3, q4, q5, q6, q7, q8, q9, g0, g1, g2, g3, g4, g5, g6, g7, g8, g9⟩ := row_facts10 hr
      clear hr hT
      go_wp2
      refine bodyPost_ret (v := ctV (Ctl.ctlL l)) (by rw [HK.out]; simp [results, Tryz.results18, go_sem, q0, q1, q2, q3, q4, q5, q6, q7, q8, q9, ctV, Ctl.ctD, hnc, hmu]) rfl ⟨rfl, ?_⟩
      repeat refine Below.setCell ?_ (by simp) _
      exact hbr
    | false =>
      have hal := alloc_below w4 (.cells #[.string (bs Ctl.noStoreN)] 9)
      have hC := tabhas_any mb B nD D _ 1 1 [Ctl.noStoreN] _ (hT.step hal) (one_rdS' w4 Ctl.noStoreN 9 w4.heap.size rfl) (by omega) (by simp)
      rw [List.any_cons, List.any_nil, Bool.or_false] at hC
      go_wp2_with fail
      refine hC.mono ?_
      rintro e w5 ⟨rfl, hb⟩
      replace hr := row_keep (row_keep hr hal) hb
      replace hT := (hT.step hal).step hb
      replace hbr := bnext (bnext hbr hal hbr.size) hb (bnext hbr hal hbr.size).size
      clear hC hal hb
      have hal := alloc_below w5 (.cells #[.string (bs Ctl.noCacheN)] 9)
      have hC := tabhas_any mb B nD D _ 1 1 [Ctl.noCacheN] _ (hT.step hal) (one_rdS' w5 Ctl.noCacheN 9 w5.heap.size rfl) (by omega) (by simp)
      rw [List.any_cons, List.any_nil, Bool.or_false] at hC
      rw [hnc] at hC
      go_wp2_with fail
      refine hC.mono ?_
      rintro e w6 ⟨rfl, hb⟩
      replace hr := row_keep (row_keep hr hal) hb
      replace hT := (hT.step hal).step hb
      replace hbr := bnext (bnext hbr hal hbr.size) hb (bnext hbr hal hbr.size).size
      clear hC hal hb
      have hal := alloc_below w6 (.cells #[.string (bs Ctl.privN)] 9)
      have hC := tabhas_any mb B nD D _ 1 1 [Ctl.privN] _ (hT.step hal) (one_rdS' w6 Ctl.privN 9 w6.heap.size rfl) (by omega) (by simp)
      rw [List.any_cons, List.any_nil, Bool.or_false] at hC
      go_wp2_with fail
      refine hC.mono ?_
      rintro e w7 ⟨rfl, hb⟩
      replace hr := row_keep (row_keep hr hal) hb
      replace hT := (hT.step hal).step hb
      replace hbr := bnext (bnext hbr hal hbr.size) hb (bnext hbr hal hbr.size).size
      clear hC hal hb
      have hal := alloc_below w7 (.cells #[.string (bs Ctl.pubN)] 9)
      have hC := tabhas_any mb B nD D _ 1 1 [Ctl.pubN] _ (hT.step hal) (one_rdS' w7 Ctl.pubN 9 w7.heap.size rfl) (by omega) (by simp)
      rw [List.any_cons, List.any_nil, Bool.or_false] at hC
      go_wp2_with fail
      refine hC.mono ?_
      rintro e w8 ⟨rfl, hb⟩
      replace hr := row_keep (row_keep hr hal) hb
      replace hT := (hT.step hal).step hb
      replace hbr := bnext (bnext hbr hal hbr.size) hb (bnext hbr hal hbr.size).size
      clear hC hal hb
      have hal := alloc_below w8 (.cells #[.string (bs Ctl.mustN), .string (bs Ctl.proxyN)] 9)
      have hC := tabhas_any mb B nD D _ 2 2 [Ctl.mustN, Ctl.proxyN] _ (hT.step hal) (two_rdS' w8 Ctl.mustN Ctl.proxyN 9 w8.heap.size rfl) (by omega) (by simp)
      rw [List.any_cons, List.any_cons, List.any_nil, Bool.or_false] at hC
      rw [hmu] at hC
      go_wp2_with fail
      refine hC.mono ?_
      rintro e w9 ⟨rfl, hb⟩
      replace hr := row_keep (row_keep hr hal) hb
      replace hT := (hT.step hal).step hb
      replace hbr := bnext (bnext hbr hal hbr.size) hb (bnext hbr hal hbr.size).size
      clear hC hal hb
      have hal := alloc_below w9 (.cells #[.string (bs Ctl.onlyN)] 9)
      have hC := tabhas_any mb B nD D _ 1 1 [Ctl.onlyN] _ (hT.step hal) (one_rdS' w9 Ctl.onlyN 9 w9.heap.size rfl) (by omega) (by simp)
      rw [List.any_cons, List.any_nil, Bool.or_false] at hC
      go_wp2_with fail
      refine hC.mono ?_
      rintro e w10 ⟨rfl, hb⟩
      replace hr := row_keep (row_keep hr hal) hb
      replace hT := (hT.step hal).step hb
      replace hbr := bnext (bnext hbr hal hbr.size) hb (bnext hbr hal hbr.size).size
      clear hC hal hb
      go_wp2_with fail
      refine (number_any mb B nD D Ctl.maxAgeN _ hT HD.out (by simp)).mono ?_
      rintro e w11 ⟨rfl, hb⟩
      replace hr := row_keep hr hb
      replace hT := hT.step hb
      replace hbr := bnext hbr hb hbr.size
      clear hb
      go_wp2_with fail
      refine (number_any mb B nD D Ctl.sMaxN _ hT HD.out (by simp)).mono ?_
      rintro e w12 ⟨rfl, hb⟩
      replace hr := row_keep hr hb
      replace hT := hT.step hb
      replace hbr := bnext hbr hb hbr.size
      clear hb
      go_wp2_with fail
      refine (number_any mb B nD D Ctl.minFreshN _ hT HD.out (by simp)).mono ?_
      rintro e w13 ⟨rfl, hb⟩
      replace hr := row_keep hr hb
      replace hT := hT.step hb
      replace hbr := bnext hbr hb hbr.size
      clear hb
      go_wp2_with fail
      refine (patience_any mb B nD D _ hT HD.out).mono ?_
      rintro e w14 ⟨rfl, hb⟩
      replace hr := row_keep hr hb
      replace hT := hT.step hb
      replace hbr := bnext hbr hb hbr.size
      clear hb
      obtain ⟨q0, q1, q2, q3, q4, q5, q6, q7, q8, q9, g0, g1, g2, g3, g4, g5, g6, g7, g8, g9⟩ := row_facts10 hr
      clear hr hT
      go_wp2
      refine bodyPost_ret (v := ctV (Ctl.ctlL l)) (by rw [HK.out]; simp [results, Tryz.results18, go_sem, q0, q1, q2, q3, q4, q5, q6, q7, q8, q9, ctV, Ctl.ctD, hnc, hmu]) rfl ⟨rfl, ?_⟩
      repeat refine Below.setCell ?_ (by simp) _
      exact hbr
end Go.Proofs.YtfhkgbimnfjfhaaGreatDoor
