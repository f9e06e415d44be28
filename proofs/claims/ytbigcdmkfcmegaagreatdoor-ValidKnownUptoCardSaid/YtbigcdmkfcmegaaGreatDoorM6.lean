/- Joined texts: valid.Merge and its reference: both give 'mergeL'; The library's HasPrefix, HasSuffix, CutPrefix, CutSuffix, walked. The conditions stand in each line. -/
import Derived.Test.YtbigcdmkfcmegaaGreatDoorChecked
import Derived.Test.YtbigcdmkfcmegaaGreatDoorM1
import Derived.Test.YtbigcdmkfcmegaaGreatDoorM5
set_option linter.unusedVariables false
set_option linter.unusedSimpArgs false
namespace Go.Proofs.YtbigcdmkfcmegaaGreatDoor
open Go.RowKit

/-- The lists of names that do not merge: as the program, and as the reference has them. -/
def hopP : List (List UInt8) := [[67, 111, 110, 116, 101, 110, 116, 45, 76, 101, 110, 103, 116, 104], [67, 111, 110, 116, 101, 110, 116, 45, 82, 97, 110, 103, 101], [84, 114, 97, 110, 115, 102, 101, 114, 45, 69, 110, 99, 111, 100, 105, 110, 103], [67, 111, 110, 110, 101, 99, 116, 105, 111, 110]]
def hopR : List (List UInt8) := [[99, 111, 110, 116, 101, 110, 116, 45, 108, 101, 110, 103, 116, 104], [99, 111, 110, 116, 101, 110, 116, 45, 114, 97, 110, 103, 101], [116, 114, 97, 110, 115, 102, 101, 114, 45, 101, 110, 99, 111, 100, 105, 110, 103], [99, 111, 110, 110, 101, 99, 116, 105, 111, 110]]
def newsL (update : List Fld) : List Fld := withoutF update hopP
def outL (stored update : List Fld) : List Fld := withoutF stored ((newsL update).map Prod.fst) ++ newsL update
def mergeL (stored update : List Fld) : List Fld := if 100 < (outL stored update).length then stored else outL stored update
theorem fold_fold (s : List UInt8) : fold (fold s) = fold s := by
  unfold fold
  rw [List.map_map]
  apply List.map_congr_left
  intro c _
  show low (low c) = low c
  by_cases h : 65 ≤ c.toNat ∧ c.toNat ≤ 90
  · apply low_no
    rw [low_yes h.1 h.2]
    omega
  · rw [low_no h, low_no h]
theorem isB_fold (f : Fld) (s : List UInt8) : isB f (fold s) = isB f s := by unfold isB; rw [fold_fold]
theorem withoutF_fold (l : List Fld) (names : List (List UInt8)) : withoutF l (names.map fold) = withoutF l names := by
  unfold withoutF
  congr 1
  funext f
  rw [List.any_map]
  congr 2
  funext s
  exact isB_fold f s
theorem rdS_lit (w : World) (l : List (List UInt8)) (t : TypeId) (cs : Array Value) (h : cs = (strs l).toArray) : RdS (w.alloc (.cells cs t)) (some ⟨w.heap.size, 0, none⟩) l.length l := by
  subst h
  refine ⟨rfl, by rw [strs_length]; omega, fun _ => ⟨w.heap.size, 0, rfl, by simp, fun j u hu => ?_⟩⟩
  rw [Nat.zero_add, cell_of_row _ _ _ _ t (0, 0) (heap_alloc_new w _)]
  simpa using hu
theorem withoutF_le (l : List Fld) (names : List (List UInt8)) : (withoutF l names).length ≤ l.length := List.length_filter_le _ _
theorem withoutF_ok {l : List Fld} {names : List (List UInt8)} (h : FlenOK l) : FlenOK (withoutF l names) := fun f hf => h f (List.mem_filter.1 hf).1
theorem names_ok {l : List Fld} (h : FlenOK l) : SlenOK (l.map Prod.fst) := fun s hs => by
  obtain ⟨f, hf, rfl⟩ := List.mem_map.1 hs
  exact (h f hf).1
theorem hopR_eq : hopR = hopP.map fold := by decide
theorem hopP_ok : SlenOK hopP := by intro s hs; simp [hopP] at hs; rcases hs with rfl | rfl | rfl | rfl <;> simp
theorem hopR_ok : SlenOK hopR := by
  intro s hs
  rw [hopR_eq] at hs
  obtain ⟨x, hx, rfl⟩ := List.mem_map.1 hs
  rw [fold_length]; exact hopP_ok x hx

set_option maxHeartbeats 1000000 in
theorem merge_p (A B : Option Addr) (n c m d : Nat) (st up : List Fld) (w : World) (hA : RdF w A n st) (hB : RdF w B m up) (hnm : (n + m) * 32 ≤ 140737488355328) (hsA : FlenOK st) (hsB : FlenOK up) :
    Calls Tryz.prog 13 #[.slice A n c, .slice B m d] w fun e w' => ∃ A' n' c', e = .returned (.slice A' n' c') ∧ OwnF w' w.heap.size (.slice A' n' c') (mergeL st up) ∧ Below w.heap.size w w' := by
  have hnl : (newsL up).length ≤ m := by have := withoutF_le up hopP; have := hB.1; unfold newsL; omega
  go_enter Tryz.func13, Tryz.ntmps13
  go_wp2_with fail
  refine (without_own B _ m d 4 4 up hopP _ (hB.step (alloc_below _ _)) (rdS_lit w hopP _ _ rfl) (by omega) (by omega) hsB hopP_ok).mono ?_
  rintro e w1 ⟨A1, n1, c1, rfl, hown1, hb1⟩
  have hb1' : Below w.heap.size w w1 := bnext (alloc_below _ _) hb1 (by simp)
  have HN1 : Hid (n1 = (newsL up).length) := Lib.hid hown1.rd.1.symm
  have hsN : FlenOK (newsL up) := withoutF_ok hsB
  change OwnF w1 _ (.slice A1 n1 c1) (newsL up) at hown1
  have HQ1 : Hid (100 < (withoutF st ((newsL up).map Prod.fst) ++ newsL up).length → mergeL st up = st) := Lib.hid fun h => if_pos h
  have HQ2 : Hid (¬ 100 < (withoutF st ((newsL up).map Prod.fst) ++ newsL up).length → mergeL st up = withoutF st ((newsL up).map Prod.fst) ++ newsL up) := Lib.hid fun h => if_neg h
  have hnok := names_ok hsN
  clear hsN
  generalize newsL up = news at *
  have hn1 : n1 ≤ m := by have := HN1.out; omega
  have HT : Hid ((news.take n1).map Prod.fst = news.map Prod.fst) := Lib.hid (by rw [List.take_of_length_le (by have := HN1.out; omega)])
  go_wp2_with fail
  go_loopw [6, 15] (fun v t wr => ∃ (k : Nat) (A' : Option Addr) (n' c' : Nat), k ≤ n1 ∧ t = .int .i64 k ∧ v = .slice A' n' c' ∧ OwnS wr w1.heap.size (.slice A' n' c') ((news.take k).map Prod.fst) ∧ Below w1.heap.size w1 wr) (fun _ t _ => n1 - (intOf t).toNat)
  case atStart => exact ⟨0, _, _, _, by omega, rfl, rfl, OwnS.nil _ _, Below.refl _ _⟩
  case round =>
    obtain ⟨k, A', n', c', hk, rfl, rfl, hown, hbr⟩ := hrel
    by_cases hlt : k < n1
    · obtain ⟨g, o, nm, vl, rfl, hg, HX, hc1, hc2⟩ := (hown1.rd.step hbr).at_ hlt
      have HS : Hid ((news.take (k + 1)).map Prod.fst = (news.take k).map Prod.fst ++ [nm]) := Lib.hid (by rw [take_snoc? HX.out, List.map_append]; rfl)
      have HL : Hid (((news.take k).map Prod.fst).length ≤ k) := Lib.hid (by simp; omega)
      go_wp2_with
        (at_builtin
         refine wp_appS rfl (.tmp 19) (.tmp 22) rfl w1.heap.size (.slice A' n' c') _ rfl ((hown.step (alloc_below _ _)).step (alloc_below _ _)) _ 1 1 [nm] rfl ?hr ?hby ?hbase ?_
         case hr => exact one_rdS' _ _ _ _ (by simp)
         case hby => have := HL.out; omega
         case hbase => have := hbr.size; simp; omega
         intro A2 n2 c2 w2 hown2 hb2 hn2)
      go_roundw
      case rel => exact ⟨k + 1, A2, n2, c2, by omega, by go_num, rfl, by rw [HS.out]; exact hown2, (bnext (bnext hbr (alloc_below _ _) hbr.size) (alloc_below _ _) (by have := hbr.size; simp; omega)).trans hb2⟩
      case measure => simp [intOf]; omega
    · obtain rfl : k = n1 := by omega
      have hown' : OwnS wr w1.heap.size (.slice A' n' c') (news.map Prod.fst) := by rw [← HT.out]; exact hown
      have hn' : n' ≤ m := by have := hown'.rd.1; have := HN1.out; simp at *; omega
      clear hown
      go_wp2_with fail
      refine (without_own A A' n c n' c' st (news.map Prod.fst) _ ((hA.step hb1').step (hbr.mono (Nat.le_refl _))) hown'.rd (by omega) (by omega) hsA hnok).mono ?_
      rintro e w3 ⟨A3, n3, c3, rfl, hown3, hb3⟩
      have hb3' : Below w.heap.size w w3 := bnext (bnext hb1' hbr hb1'.size) hb3 (by have := hb1'.size; have := hbr.size; omega)
      have hnews3 := ((hown1.rd.step hbr).step hb3)
      have HL3 : Hid ((withoutF st (news.map Prod.fst)).length ≤ n) := Lib.hid (by have := withoutF_le st (news.map Prod.fst); have := hA.1; omega)
      go_wp2_with
        (at_builtin
         refine wp_appF rfl (.tmp 27) (.tmp 28) rfl wr.heap.size (.slice A3 n3 c3) _ rfl hown3 A1 k c1 news rfl hnews3 ?hby ?hbase ?_
         case hby => have := HL3.out; omega
         case hbase => exact hb3.size
         intro A4 n4 c4 w4 hown4 hb4 hn4)
      have hb4' : Below w.heap.size w w4 := hb3'.trans (hb4.mono (by have := hb1'.size; have := hbr.size; omega))
      have HN4 : Hid ((withoutF st (news.map Prod.fst) ++ news).length = n4) := Lib.hid hown4.rd.1
      · refine (cloneF_own A n c st _ (hA.step hb4') (by omega)).mono ?_
        rintro e w5 ⟨A5, n5, c5, rfl, hown5, hb5⟩
        have HE := Lib.hid (HQ1.out (by rw [HN4.out]; omega))
        go_wp2
        go_ret
        exact ⟨A5, n5, c5, rfl, by rw [HE.out]; exact hown5.mono hb4'.size, bnext hb4' hb5 hb4'.size⟩
      · have hb4' : Below w.heap.size w w4 := hb3'.trans (hb4.mono (by have := hb1'.size; have := hbr.size; omega))
        have HN4 : Hid ((withoutF st (news.map Prod.fst) ++ news).length = n4) := Lib.hid hown4.rd.1
        have HE := Lib.hid (HQ2.out (by rw [HN4.out]; omega))
        go_ret
        exact ⟨A4, n4, c4, rfl, by rw [HE.out]; exact hown4.mono (by have := hb1'.size; have := hbr.size; omega), hb4'⟩

set_option maxHeartbeats 1000000 in
theorem merge_r (A B : Option Addr) (n c m d : Nat) (st up : List Fld) (w : World) (hA : RdF w A n st) (hB : RdF w B m up) (hnm : (n + m) * 32 ≤ 140737488355328) (hsA : FlenOK st) (hsB : FlenOK up) :
    Calls Tryz.prog 14 #[.slice A n c, .slice B m d] w fun e w' => ∃ A' n' c', e = .returned (.slice A' n' c') ∧ OwnF w' w.heap.size (.slice A' n' c') (mergeL st up) ∧ Below w.heap.size w w' := by
  have hnl : (newsL up).length ≤ m := by have := withoutF_le up hopP; have := hB.1; unfold newsL; omega
  go_enter Tryz.func14, Tryz.ntmps14
  go_wp2_with fail
  refine (rwithout_own B _ m d 4 4 up hopR _ (hB.step (alloc_below _ _)) (rdS_lit w hopR _ _ rfl) (by omega) (by omega) hsB hopR_ok).mono ?_
  rintro e w1 ⟨A1, n1, c1, rfl, hown1, hb1⟩
  have hb1' : Below w.heap.size w w1 := bnext (alloc_below _ _) hb1 (by simp)
  have hown1' : OwnF w1 (w.alloc (.cells (strs hopR).toArray 9)).heap.size (.slice A1 n1 c1) (newsL up) := by
    have h := hown1
    rw [show withoutF up hopR = newsL up from by rw [hopR_eq]; exact withoutF_fold up hopP] at h
    exact h
  clear hown1
  have hown1 := hown1'
  clear hown1'
  have HN1 : Hid (n1 = (newsL up).length) := Lib.hid hown1.rd.1.symm
  have hsN : FlenOK (newsL up) := withoutF_ok hsB
  have HQ1 : Hid (100 < (withoutF st ((newsL up).map Prod.fst) ++ newsL up).length → mergeL st up = st) := Lib.hid fun h => if_pos h
  have HQ2 : Hid (¬ 100 < (withoutF st ((newsL up).map Prod.fst) ++ newsL up).length → mergeL st up = withoutF st ((newsL up).map Prod.fst) ++ newsL up) := Lib.hid fun h => if_neg h
  have hnok := names_ok hsN
  clear hsN
  generalize newsL up = news at *
  have hn1 : n1 ≤ m := by have := HN1.out; omega
  have HT : Hid ((news.take n1).map Prod.fst = news.map Prod.fst) := Lib.hid (by rw [List.take_of_length_le (by have := HN1.out; omega)])
  go_upto_region 3 with fail
  have hmd := OwnS.made w1
  have hbm := alloc_below w1 (.cells #[] 9)
  go_wp2_with fail
  go_loopw [6, 7] (fun v t wr => ∃ (k : Nat) (A' : Option Addr) (n' c' : Nat), k ≤ n1 ∧ t = .int .i64 k ∧ v = .slice A' n' c' ∧ OwnS wr w1.heap.size (.slice A' n' c') ((news.take k).map Prod.fst) ∧ Below w1.heap.size w1 wr) (fun _ t _ => n1 - (intOf t).toNat)
  case atStart => exact ⟨0, _, _, _, by omega, rfl, rfl, hmd, hbm⟩
  case round =>
    obtain ⟨k, A', n', c', hk, rfl, rfl, hown, hbr⟩ := hrel
    clear hmd hbm
    by_cases hlt : k < n1
    · obtain ⟨g, o, nm, vl, rfl, hg, HX, hc1, hc2⟩ := (hown1.rd.step hbr).at_ hlt
      have HS : Hid ((news.take (k + 1)).map Prod.fst = (news.take k).map Prod.fst ++ [nm]) := Lib.hid (by rw [take_snoc? HX.out, List.map_append]; rfl)
      have HL : Hid (((news.take k).map Prod.fst).length ≤ k) := Lib.hid (by simp; omega)
      go_wp2_with
        (at_builtin
         refine wp_appS rfl (.tmp 19) (.tmp 25) rfl w1.heap.size (.slice A' n' c') _ rfl (hown.step (alloc_below _ _)) _ 1 1 [nm] rfl ?hr ?hby ?hbase ?_
         case hr => exact one_rdS' _ _ _ _ (by simp)
         case hby => have := HL.out; omega
         case hbase => have := hbr.size; simp; omega
         intro A2 n2 c2 w2 hown2 hb2 hn2)
      go_roundw
      case rel => exact ⟨k + 1, A2, n2, c2, by omega, by go_num, rfl, by rw [HS.out]; exact hown2, (bnext hbr (alloc_below _ _) hbr.size).trans hb2⟩
      case measure => simp [intOf]; omega
    · obtain rfl : k = n1 := by omega
      have hown' : OwnS wr w1.heap.size (.slice A' n' c') (news.map Prod.fst) := by rw [← HT.out]; exact hown
      have hn' : n' ≤ m := by have := hown'.rd.1; have := HN1.out; simp at *; omega
      clear hown
      go_wp2_with fail
      refine (rwithout_own A A' n c n' c' st (news.map Prod.fst) _ ((hA.step hb1').step (hbr.mono (Nat.le_refl _))) hown'.rd (by omega) (by omega) hsA hnok).mono ?_
      rintro e w3 ⟨A3, n3, c3, rfl, hown3, hb3⟩
      have hb3' : Below w.heap.size w w3 := bnext (bnext hb1' hbr hb1'.size) hb3 (by have := hb1'.size; have := hbr.size; omega)
      have hnews3 := ((hown1.rd.step hbr).step hb3)
      have HL3 : Hid ((withoutF st (news.map Prod.fst)).length ≤ n) := Lib.hid (by have := withoutF_le st (news.map Prod.fst); have := hA.1; omega)
      go_wp2_with
        (at_builtin
         refine wp_appF rfl (.tmp 30) (.tmp 31) rfl wr.heap.size (.slice A3 n3 c3) _ rfl hown3 A1 k c1 news rfl hnews3 ?hby ?hbase ?_
         case hby => have := HL3.out; omega
         case hbase => exact hb3.size
         intro A4 n4 c4 w4 hown4 hb4 hn4)
      · have hb4' : Below w.heap.size w w4 := hb3'.trans (hb4.mono (by have := hb1'.size; have := hbr.size; omega))
        have HN4 : Hid ((withoutF st (news.map Prod.fst) ++ news).length = n4) := Lib.hid hown4.rd.1
        refine (copyFields_own A n c st _ (hA.step hb4') (by omega)).mono ?_
        rintro e w5 ⟨A5, n5, c5, rfl, hown5, hb5⟩
        have HE := Lib.hid (HQ1.out (by rw [HN4.out]; omega))
        go_wp2
        go_ret
        exact ⟨A5, n5, c5, rfl, by rw [HE.out]; exact hown5.mono hb4'.size, bnext hb4' hb5 hb4'.size⟩
      · have hb4' : Below w.heap.size w w4 := hb3'.trans (hb4.mono (by have := hb1'.size; have := hbr.size; omega))
        have HN4 : Hid ((withoutF st (news.map Prod.fst) ++ news).length = n4) := Lib.hid hown4.rd.1
        have HE := Lib.hid (HQ2.out (by rw [HN4.out]; omega))
        go_ret
        exact ⟨A4, n4, c4, rfl, by rw [HE.out]; exact hown4.mono (by have := hb1'.size; have := hbr.size; omega), hb4'⟩

end Go.Proofs.YtbigcdmkfcmegaaGreatDoor
set_option linter.unusedVariables false
set_option linter.unusedSimpArgs false
namespace Go.Proofs.YtbigcdmkfcmegaaGreatDoor
open Go.RowKit

theorem pre_short {p s : List UInt8} (h : ¬ p.length ≤ s.length) : preB p s = false := by
  rw [Bool.eq_false_iff]; intro hp; exact h (preB_len hp)
theorem suf_short {p s : List UInt8} (h : ¬ p.length ≤ s.length) : sufB p s = false := by
  rw [Bool.eq_false_iff]; intro hp; exact h (sufB_len hp)
set_option maxHeartbeats 400000 in
theorem hasPrefix_any (s p : List UInt8) (w : World) (hs : s.length ≤ 140737488355328) (hp : p.length ≤ 140737488355328) :
    Calls Tryz.prog 71 #[.string (bs s), .string (bs p)] w fun e w' => e = .returned (.bool (preB p s)) ∧ w = w' := by
  go_enter Tryz.func71, Tryz.ntmps71
  go_wp2
  · go_ret
    exact ⟨ret_bool rfl, rfl⟩
  · go_ret
    exact ⟨ret_bool (pre_short ‹_›).symm, rfl⟩

set_option maxHeartbeats 400000 in
theorem hasSuffix_any (s p : List UInt8) (w : World) (hs : s.length ≤ 140737488355328) (hp : p.length ≤ 140737488355328) :
    Calls Tryz.prog 72 #[.string (bs s), .string (bs p)] w fun e w' => e = .returned (.bool (sufB p s)) ∧ w = w' := by
  go_enter Tryz.func72, Tryz.ntmps72
  go_wp2
  · go_ret
    exact ⟨ret_bool rfl, rfl⟩
  · go_ret
    exact ⟨ret_bool (suf_short ‹_›).symm, rfl⟩

set_option maxHeartbeats 400000 in
theorem lcutPrefix_any (s p : List UInt8) (w : World) (hs : s.length ≤ 140737488355328) (hp : p.length ≤ 140737488355328) :
    Calls Tryz.prog 51 #[.string (bs s), .string (bs p)] w fun e w' => e = .returned (.tuple #[.string (bs (cutP p s)), .bool (preB p s)]) ∧ w = w' := by
  have hl := @preB_len p s
  unfold cutP
  by_cases h : preB p s = true
  · have hl' := hl h
    rw [if_pos h]
    go_enter Tryz.func51, Tryz.ntmps51
    go_wp2_with (go_at_call 71; refine (hasPrefix_any _ _ _ hs hp).mono ?_; rintro e w' ⟨rfl, rfl⟩)
    go_ret2
    exact ⟨by simp [h], rfl⟩
  · have h' : preB p s = false := by simpa using h
    rw [if_neg h]
    go_enter Tryz.func51, Tryz.ntmps51
    go_wp2_with (go_at_call 71; refine (hasPrefix_any _ _ _ hs hp).mono ?_; rintro e w' ⟨rfl, rfl⟩)
    go_ret2
    exact ⟨by simp [h'], rfl⟩
set_option maxHeartbeats 400000 in
theorem lcutSuffix_any (s p : List UInt8) (w : World) (hs : s.length ≤ 140737488355328) (hp : p.length ≤ 140737488355328) :
    Calls Tryz.prog 52 #[.string (bs s), .string (bs p)] w fun e w' => e = .returned (.tuple #[.string (bs (cutS p s)), .bool (sufB p s)]) ∧ w = w' := by
  have hl := @sufB_len p s
  unfold cutS
  by_cases h : sufB p s = true
  · have hl' := hl h
    rw [if_pos h]
    go_enter Tryz.func52, Tryz.ntmps52
    go_wp2_with (go_at_call 72; refine (hasSuffix_any _ _ _ hs hp).mono ?_; rintro e w' ⟨rfl, rfl⟩)
    go_ret2
    exact ⟨by simp [h], rfl⟩
  · have h' : sufB p s = false := by simpa using h
    rw [if_neg h]
    go_enter Tryz.func52, Tryz.ntmps52
    go_wp2_with (go_at_call 72; refine (hasSuffix_any _ _ _ hs hp).mono ?_; rintro e w' ⟨rfl, rfl⟩)
    go_ret2
    exact ⟨by simp [h'], rfl⟩
set_option maxHeartbeats 400000 in
theorem cutSuffix_any (s p : List UInt8) (w : World) (hs : s.length ≤ 140737488355328) (hp : p.length ≤ 140737488355328) :
    Calls Tryz.prog 38 #[.string (bs s), .string (bs p)] w fun e w' => e = .returned (.tuple #[.string (bs (cutS p s)), .bool (sufB p s)]) ∧ w = w' := by
  go_enter Tryz.func38, Tryz.ntmps38
  go_wp2_with (go_at_call 52; refine (lcutSuffix_any _ _ _ hs hp).mono ?_; rintro e w' ⟨rfl, rfl⟩)
  go_ret2
  exact ⟨rfl, rfl⟩
set_option maxHeartbeats 400000 in
theorem cutPrefix_any (s p : List UInt8) (w : World) (hs : s.length ≤ 140737488355328) (hp : p.length ≤ 140737488355328) :
    Calls Tryz.prog 37 #[.string (bs s), .string (bs p)] w fun e w' => e = .returned (.tuple #[.string (bs (cutP p s)), .bool (preB p s)]) ∧ w = w' := by
  go_enter Tryz.func37, Tryz.ntmps37
  go_wp2_with (go_at_call 51; refine (lcutPrefix_any _ _ _ hs hp).mono ?_; rintro e w' ⟨rfl, rfl⟩)
  go_ret2
  exact ⟨rfl, rfl⟩
set_option maxHeartbeats 400000 in
theorem shasPrefix_any (s p : List UInt8) (w : World) (hs : s.length ≤ 140737488355328) (hp : p.length ≤ 140737488355328) :
    Calls Tryz.prog 80 #[.string (bs s), .string (bs p)] w fun e w' => e = .returned (.bool (preB p s)) ∧ w = w' := by
  go_enter Tryz.func80, Tryz.ntmps80
  go_wp2_with (go_at_call 71; refine (hasPrefix_any _ _ _ hs hp).mono ?_; rintro e w' ⟨rfl, rfl⟩)
  go_ret
  exact ⟨rfl, rfl⟩

end Go.Proofs.YtbigcdmkfcmegaaGreatDoor
