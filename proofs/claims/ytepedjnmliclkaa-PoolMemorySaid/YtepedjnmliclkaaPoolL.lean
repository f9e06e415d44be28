/- alive of the pool's laws: true. No conditions. -/
import Derived.Test.YtepedjnmliclkaaOps
set_option linter.unusedVariables false
set_option linter.unusedSimpArgs false
namespace Go.Proofs.Ytepedjnmliclkaa
open Go.RowKit

theorem ids_nil : IdsOK [] := by simp [IdsOK]
def cA (i : Int) : Cn := ⟨[97], i, 0⟩
theorem al1 : putL 3 2 [97] 1 0 [] = ([cA 1], []) := rfl
theorem al2 : putL 3 2 [97] 2 0 [cA 1] = ([cA 1, cA 2], []) := rfl
theorem al3 : putL 3 2 [97] 3 0 [cA 1, cA 2] = ([cA 2, cA 3], [1]) := rfl
theorem al4 : lastL (takeB 10 5 [97]) [cA 2, cA 3] = some (cA 3) := rfl
theorem al5 : takeR (some (cA 3)) [cA 2, cA 3] = [cA 2] := rfl
theorem al6 : ([cA 2].filter (oldX 10 10)).map (·.id) = [2] := rfl
set_option maxHeartbeats 1000000 in
theorem alive_any (w : World) : Calls Try.prog 42 #[] w fun e w' => e = .returned (.bool true) ∧ Below w.heap.size w w' := by
  go_enter Try.func42, Try.ntmps42
  go_wp2_with fail
  refine (poolNew_any 3 2 10 w).mono ?_
  rintro e w1 ⟨pb, rfl, hp1, hb1⟩
  rw [show upL 3 = 3 from rfl, show upL 2 = 2 from rfl, show upL 10 = 10 from rfl] at hp1
  go_wp2_with fail
  refine (put_any w.heap.size pb 3 2 10 [] [97] 1 0 w1 hp1 ids_nil (by simp) (by omega) (by omega)).mono ?_
  rintro e w2 ⟨A2, n2, c2, rfl, -, hp2, ht2⟩
  rw [al1] at hp2
  have hbA := hb1.trans ht2.below
  go_wp2_with fail
  refine (put_any w.heap.size pb 3 2 10 [cA 1] [97] 2 0 w2 hp2 (by simp [IdsOK]) (by simp) (by omega) (by omega)).mono ?_
  rintro e w3 ⟨A3, n3, c3, rfl, -, hp3, ht3⟩
  rw [al2] at hp3
  have hbB := hbA.trans ht3.below
  go_wp2_with fail
  refine (put_any w.heap.size pb 3 2 10 [cA 1, cA 2] [97] 3 0 w3 hp3 (by simp [IdsOK, cA]) (by simp) (by omega) (by omega)).mono ?_
  rintro e w4 ⟨A4, n4, c4, rfl, ho4, hp4, ht4⟩
  rw [al3] at hp4 ho4
  have hbC := hbB.trans ht4.below
  go_wp2_with fail
  refine (take_any w.heap.size pb 3 2 10 [cA 2, cA 3] [97] 5 w4 hp4 (by simp [IdsOK, cA]) (by simp)).mono ?_
  rintro e w5 ⟨rfl, hp5, ht5⟩
  rw [al4] at hp5 ⊢
  rw [al5] at hp5
  have ho5 := ho4.turnP ht5
  have hbD := hbC.trans ht5.below
  have hal := alloc_below w5 (.cells #[.int .i64 1] 3)
  have hr5 := ho5.rd.step hal
  have hn4 := hr5.1
  have hp6 := hp5.step hal
  have hbE := bnext hbD hal hbD.size
  obtain rfl : n4 = 1 := by simpa using hn4.symm
  have hS := sameInts_any A4 (some ⟨w5.heap.size, 0, none⟩) 1 1 c4 1 [1] [1] _ hr5 (one_rdI w5 1 _) (by omega) (by omega)
  unfold takeV cA
  clear hb1 ht2 hbA ht3 hbB ht4 hbC ht5 ho4 ho5 hp1 hp2 hp3 hp4 hp5 hr5 hbD hal hn4
  go_wp2_with fail
  refine hS.mono ?_
  rintro e w6 ⟨rfl, hb6⟩
  have hp7 := hp6.step hb6
  have hbF := bnext hbE hb6 hbE.size
  go_wp2_with fail
  refine (expire_any w.heap.size pb 3 2 10 [cA 2] 10 w6 hp7 (by simp)).mono ?_
  rintro e w7 ⟨A7, n7, c7, rfl, ho7, hp8, ht7⟩
  rw [al6] at ho7
  have hbG := hbF.trans ht7.below
  have hal := alloc_below w7 (.cells #[.int .i64 2] 3)
  have hr7 := ho7.rd.step hal
  have hn7 := hr7.1
  have hbH := bnext hbG hal hbG.size
  obtain rfl : n7 = 1 := by simpa using hn7.symm
  have hS2 := sameInts_any A7 (some ⟨w7.heap.size, 0, none⟩) 1 1 c7 1 [2] [2] _ hr7 (one_rdI w7 2 _) (by omega) (by omega)
  clear hS hp6 hp7 hp8 hbE hb6 hbF ht7 ho7 hbG hal hr7 hn7
  go_wp2_with fail
  refine hS2.mono ?_
  rintro e w8 ⟨rfl, hb8⟩
  go_wp2
  go_ret
  exact ⟨rfl, bnext hbH hb8 hbH.size⟩
end Go.Proofs.Ytepedjnmliclkaa
