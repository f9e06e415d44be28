/- The table's laws: cut, SameTexts, alive. Conditions: lengths that are lengths of slices. -/
import Derived.Test.YtepedjnmliclkaaLruPut
import Derived.Test.YtepedjnmliclkaaOps
import Derived.Deep.QuietTactic
import Derived.BigQuiet
set_option linter.unusedVariables false
set_option linter.unusedSimpArgs false
namespace Go.Proofs.Ytepedjnmliclkaa
open Go.RowKit

set_option maxHeartbeats 400000 in
theorem cutL_any (A : Option Addr) (n c : Nat) (l : List Op4) (w : World) (hl : RdO w A n l) (hnc : n ≤ c) (hcm : c ≤ 9223372036854775807) :
    Calls Try.prog 16 #[.slice A n c] w fun e w' => ∃ m, e = .returned (.slice A m c) ∧ m ≤ 300 ∧ m ≤ c ∧ RdO w A m (l.take 300) ∧ w = w' := by
  by_cases h : n ≤ 300
  · have h1 : ¬ (300 : Int) < (n : Int) := by omega
    have HT : Hid (l.take 300 = l) := Lib.hid (List.take_of_length_le (by rw [hl.1]; exact h))
    go_enter Try.func16, Try.ntmps16
    go_wp2
    go_ret
    exact ⟨n, rfl, h, hnc, by rw [HT.out]; exact hl, rfl⟩
  · have h1 : (300 : Int) < (n : Int) := by omega
    have h2 : (300 : Int) ≤ (c : Int) := by omega
    have HT := Lib.hid (hl.take (k := 300) (by omega))
    go_enter Try.func16, Try.ntmps16
    go_wp2
    go_ret
    exact ⟨300, rfl, by omega, by omega, HT.out, rfl⟩
set_option maxHeartbeats 400000 in
theorem sameTexts_any (A B : Option Addr) (n m c d : Nat) (l r : List (List UInt8)) (w : World) (hl : RdS w A n l) (hr : RdS w B m r) (hn : n ≤ 140737488355328) (hm : m ≤ 140737488355328) :
    Calls Try.prog 20 #[.slice A n c, .slice B m d] w fun e w' => e = .returned (.bool (l == r)) ∧ Below w.heap.size w w' := by
  by_cases hnm : n = m
  case neg =>
    have HF : Hid ((l == r) = false) := Lib.hid (by rw [beq_eq_false_iff_ne]; intro h; apply hnm; rw [← hl.1, ← hr.1, h])
    have hnm' : ((n : Int) != (m : Int)) = true := by simp; omega
    go_enter Try.func20, Try.ntmps20
    go_wp2
    go_ret
    exact ⟨ret_bool HF.out.symm, Below.refl _ _⟩
  subst hnm
  have HN : Hid (∀ k : Nat, ∀ x y : List UInt8, l[k]? = some x → r[k]? = some y → x ≠ y → (l == r) = false) := Lib.hid fun k x y h1 h2 hne => by
    rw [beq_eq_false_iff_ne]; intro h; subst h; rw [h1] at h2; exact hne (Option.some.inj h2)
  have HT : Hid (l.take n = r.take n → (l == r) = true) := Lib.hid fun h => by
    rw [List.take_of_length_le (by rw [hl.1]; exact Nat.le_refl _), List.take_of_length_le (by rw [hr.1]; exact Nat.le_refl _)] at h; simpa using h
  go_enter Try.func20, Try.ntmps20
  go_wp2
  go_loopw [5] (fun t wr => ∃ k : Nat, k ≤ n ∧ t = .int .i64 k ∧ l.take k = r.take k ∧ Below w.heap.size w wr) (fun t _ => n - (intOf t).toNat)
  case atStart => exact ⟨0, by omega, rfl, rfl, Below.refl _ _⟩
  case round =>
    obtain ⟨k, hk, rfl, hall, hbr⟩ := hrel
    have HA := Lib.hid hall
    clear hall
    by_cases hlt : k < n
    · obtain ⟨g, o, x, rfl, hg, HX, hc1⟩ := (hl.step hbr).at_ hlt
      obtain ⟨g', o', y, rfl, hg', HY, hd1⟩ := (hr.step hbr).at_ hlt
      clear hl hr
      have HS : Hid (x = y → l.take (k + 1) = r.take (k + 1)) := Lib.hid fun h => by rw [take_snoc? HX.out, take_snoc? HY.out, HA.out, h]
      have HF : Hid (x ≠ y → (l == r) = false) := Lib.hid fun h => HN.out k _ _ HX.out HY.out h
      go_wp2
      go_quiet (fail)
      go_wp2
      · have hne : x ≠ y := by rintro rfl; simp_all
        go_ret
        exact ⟨ret_bool (HF.out hne).symm, below_drewN hbr _⟩
      · have he : x = y := by simp_all
        go_roundw
        case rel => exact ⟨k + 1, by omega, by go_num, HS.out he, below_drewN hbr _⟩
        case measure => simp [intOf]; omega
    · obtain rfl : k = n := by omega
      go_wp2
      go_ret
      exact ⟨ret_bool (HT.out HA.out).symm, hbr⟩

theorem two_rdS (w : World) (s t : List UInt8) (T : TypeId) : RdS (w.alloc (.cells #[.string (bs s), .string (bs t)] T)) (some ⟨w.heap.size, 0, none⟩) 2 [s, t] := by
  refine ⟨rfl, rfl, fun _ => ⟨w.heap.size, 0, rfl, by simp, fun j u hu => ?_⟩⟩
  rw [Nat.zero_add, cell_of_row _ _ _ _ T (0, 0) (heap_alloc_new w _)]
  simpa [strs, strV] using hu
def kA : Cn := ⟨[97], 1, 4⟩
def kB : Cn := ⟨[98], 2, 4⟩
def kC : Cn := ⟨[99], 3, 4⟩
theorem el1 : lputL 10 [97] 1 4 [] = ([kA], [], true) := rfl
theorem el2 : lputL 10 [98] 2 4 [kA] = ([kB, kA], [], true) := rfl
theorem el3 : lputL 10 [99] 3 4 [kA, kB] = ([kC, kA], [[98]], true) := rfl
theorem eg1 : findK [97] [kB, kA] = some kA := rfl
theorem eg2 : woL [97] [kB, kA] = [kB] := rfl
theorem items_nil {room : Int} (h : 0 ≤ room) (h2 : room ≤ 1073741824) : ItemsOK room [] := ⟨by simp [KeysOK], by simp, by simpa [sumW] using h, h2⟩
set_option maxHeartbeats 2000000 in
theorem alive14_any (w : World) : Calls Try.prog 13 #[] w fun e w' => e = .returned (.bool true) ∧ Below w.heap.size w w' := by
  have hi0 : ItemsOK 10 [] := items_nil (by omega) (by omega)
  have hi1 : ItemsOK 10 [kA] := by have := hi0.put (s := [97]) (v := 1) (size := 4) (by decide); rwa [el1] at this
  have hi2 : ItemsOK 10 [kB, kA] := by have := hi1.put (s := [98]) (v := 2) (size := 4) (by decide); rwa [el2] at this
  have hi3 : ItemsOK 10 [kA, kB] := ⟨by simp [KeysOK, kA, kB], by simp [kA, kB, maxLen], by simp [sumW, kA, kB], by omega⟩
  go_enter Try.func13, Try.ntmps13
  go_wp2_with fail
  refine (lruNew_any 10 w).mono ?_
  rintro e w1 ⟨tb, mb, rfl, hp1, hb1⟩
  rw [show roomL 10 = 10 from rfl] at hp1
  go_wp2_with fail
  refine (lruPut_any w.heap.size tb mb 0 10 [] [97] 1 4 w1 hp1 hi0 (by omega) (by decide) (by simp) (by omega)).mono ?_
  rintro e w2 ⟨A2, n2, c2, rfl, -, hp2, ht2⟩
  rw [el1] at hp2
  have hbA := hb1.trans ht2.below
  go_wp2_with fail
  refine (lruPut_any w.heap.size tb mb 1 10 [kA] [98] 2 4 w2 hp2 hi1 (by omega) (by decide) (by simp) (by omega)).mono ?_
  rintro e w3 ⟨A3, n3, c3, rfl, -, hp3, ht3⟩
  rw [el2] at hp3
  have hbB := hbA.trans ht3.below
  go_wp2_with fail
  refine (lruGet_any w.heap.size tb mb 2 10 [kB, kA] [97] w3 hp3 hi2 (by decide)).mono ?_
  rintro e w4 ⟨rfl, hp4, ht4⟩
  rw [eg1] at hp4 ⊢
  dsimp only at hp4
  rw [eg2] at hp4
  have hbC := hbB.trans ht4.below
  unfold peekV
  dsimp only
  go_wp2_with fail
  refine (lruPut_any w.heap.size tb mb 2 10 [kA, kB] [99] 3 4 w4 hp4 hi3 (by omega) (by decide) (by simp) (by omega)).mono ?_
  rintro e w5 ⟨A5, n5, c5, rfl, ho5, hp5, ht5⟩
  rw [el3] at hp5 ho5 ⊢
  have hbD := hbC.trans ht5.below
  dsimp only at hp5 ho5 ⊢
  have hal := alloc_below w5 (.cells #[.string (bs [98])] 9)
  have hr5 := ho5.rd.step hal
  have hn5 := hr5.1
  have hp6 := hp5.step hal
  have hbE := bnext hbD hal hbD.size
  obtain rfl : n5 = 1 := by simpa using hn5.symm
  have hS := sameTexts_any A5 (some ⟨w5.heap.size, 0, none⟩) 1 1 c5 1 [[98]] [[98]] _ hr5 (one_rdS w5 [98] _) (by omega) (by omega)
  unfold kA
  clear hb1 ht2 hbA ht3 hbB ht4 hbC ht5 ho5 hp1 hp2 hp3 hp4 hp5 hr5 hbD hal hn5 hi0 hi1 hi2 hi3
  go_wp2_with fail
  refine hS.mono ?_
  rintro e w6 ⟨rfl, hb6⟩
  have hp7 := hp6.step hb6
  have hbF := bnext hbE hb6 hbE.size
  go_wp2_with fail
  refine (lruKeys_any w.heap.size tb mb 3 10 [kC, kA] w6 hp7 (by simp)).mono ?_
  rintro e w7 ⟨A7, n7, c7, rfl, ho7, hp8, hb7⟩
  rw [show [kC, kA].map (·.o) = [[99], [97]] from rfl] at ho7
  have hbG := bnext hbF hb7 hbF.size
  have hal := alloc_below w7 (.cells #[.string (bs [99]), .string (bs [97])] 9)
  have hr7 := ho7.rd.step hal
  have hn7 := hr7.1
  have hbH := bnext hbG hal hbG.size
  obtain rfl : n7 = 2 := by simpa using hn7.symm
  have hS2 := sameTexts_any A7 (some ⟨w7.heap.size, 0, none⟩) 2 2 c7 2 [[99], [97]] [[99], [97]] _ hr7 (two_rdS w7 [99] [97] _) (by omega) (by omega)
  have hp9 := hp8.step hal
  clear hS hp6 hp7 hp8 hbE hb6 hbF ho7 hb7 hbG hal hr7 hn7
  go_wp2_with fail
  refine hS2.mono ?_
  rintro e w8 ⟨rfl, hb8⟩
  have hU := lruUsed_any w.heap.size tb mb 3 10 [kC, kA] w8 (hp9.step hb8)
  rw [show sumW [kC, kA] = 8 from rfl] at hU
  have hbI := bnext hbH hb8 hbH.size
  clear hS2 hp9 hbH hb8
  go_wp2_with fail
  refine hU.mono ?_
  rintro e w9 ⟨rfl, rfl⟩
  go_wp2
  go_ret
  exact ⟨rfl, hbI⟩
end Go.Proofs.Ytepedjnmliclkaa
