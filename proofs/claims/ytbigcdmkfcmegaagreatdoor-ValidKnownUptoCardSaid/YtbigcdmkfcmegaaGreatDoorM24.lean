/- Joined texts: Unchanged, the program's and the reference's, and its closures. The conditions stand in each line. -/
import Derived.Test.YtbigcdmkfcmegaaGreatDoorM23
set_option linter.unusedVariables false
set_option linter.unusedSimpArgs false
namespace Go.Proofs.YtbigcdmkfcmegaaGreatDoor
open Go.RowKit

set_option maxRecDepth 100000
/-- A function value that, called with a text at any later world, tells p of it and makes at most memory. -/
def PredM (M : Nat) (w : World) (K : FuncId) (caps : Array Value) (p : List UInt8 → Bool) : Prop :=
  (∀ (args : Array Value) (W : World), (callFunc K args).run Tryz.prog W = .ok (.enter K args) W) ∧ ∀ (W : World) (s : List UInt8), Below w.heap.size w W → s.length ≤ M → Calls Tryz.prog K (#[.string (bs s)] ++ caps) W fun e w' => e = .returned (.bool (p s)) ∧ Below W.heap.size W w'
set_option maxHeartbeats 400000 in
theorem indexFuncM_any (M : Nat) (A : Option Addr) (n c : Nat) (l : List (List UInt8)) (K : FuncId) (caps : Array Value) (p : List UInt8 → Bool) (w0 w : World) (hw0 : Below w0.heap.size w0 w) (hl : RdS w A n l) (hn : n ≤ 140737488355328) (hls : ∀ s ∈ l, s.length ≤ M)
    (hp : PredM M w0 K caps p) :
    Calls Tryz.prog 47 #[.slice A n c, .func (.func K) #[] caps] w fun e w' => e = .returned (.int .i64 (idxI p l)) ∧ Below w.heap.size w w' := by
  have HN : Hid (∀ k x, (l.take k).any p = false → l[k]? = some x → p x = true → idxI p l = k) := Lib.hid fun k x h1 h2 h3 => idxI_some h1 h2 h3
  have HE : Hid ((l.take n).any p = false → idxI p l = -1) := Lib.hid fun h => idxI_none (by rwa [List.take_of_length_le (by rw [hl.1]; exact Nat.le_refl _)] at h)
  go_enter Tryz.func47, Tryz.ntmps47
  go_wp2_with fail
  go_loopw [8] (fun t wr => ∃ k : Nat, k ≤ n ∧ t = .int .i64 k ∧ (l.take k).any p = false ∧ Below w.heap.size w wr ∧ Below w0.heap.size w0 wr) (fun t _ => n - (intOf t).toNat)
  case atStart => exact ⟨0, by omega, rfl, by simp, Below.refl _ _, hw0⟩
  case round =>
    obtain ⟨k, hk, rfl, hall, hbr, hbr0⟩ := hrel
    have HA := Lib.hid hall
    clear hall
    by_cases hlt : k < n
    · obtain ⟨g, o, s, rfl, hg, HX, hc⟩ := (hl.step hbr).at_ hlt
      clear hl
      have hsl : s.length ≤ M := hls _ (mem_of_get? HX.out)
      have HT : Hid ((l.take (k + 1)).any p = p s) := Lib.hid (by rw [take_snoc? HX.out, List.any_append, HA.out]; simp)
      clear hls
      have hcf := hp.1
      have HP : Hid (p s = true → idxI p l = k) := Lib.hid (HN.out k s HA.out HX.out)
      go_wp2_with fail
      refine (hp.2 wr s hbr0 hsl).mono ?_
      rintro e w1 ⟨rfl, hb1⟩
      cases hps : p s
      · have HPS := Lib.hid hps
        go_wp2
        go_roundw
        case rel => exact ⟨k + 1, by omega, by go_num, by rw [HT.out, HPS.out], bnext hbr hb1 hbr.size, bnext hbr0 hb1 hbr0.size⟩
        case measure => simp [intOf]; omega
      · have HPS := Lib.hid hps
        go_wp2
        go_ret
        exact ⟨ret_int (HP.out HPS.out).symm, bnext hbr hb1 hbr.size⟩
    · obtain rfl : k = n := by omega
      go_wp2
      go_ret
      exact ⟨ret_int (HE.out HA.out).symm, hbr⟩
set_option maxHeartbeats 400000 in
theorem containsFuncM_any (M : Nat) (A : Option Addr) (n c : Nat) (l : List (List UInt8)) (K : FuncId) (caps : Array Value) (p : List UInt8 → Bool) (w0 w : World) (hw0 : Below w0.heap.size w0 w) (hl : RdS w A n l) (hn : n ≤ 140737488355328) (hls : ∀ s ∈ l, s.length ≤ M)
    (hp : PredM M w0 K caps p) :
    Calls Tryz.prog 30 #[.slice A n c, .func (.func K) #[] caps] w fun e w' => e = .returned (.bool (l.any p)) ∧ Below w.heap.size w w' := by
  have HE := Lib.hid (idxI_ge p l)
  go_enter Tryz.func30, Tryz.ntmps30
  go_wp2_with fail
  refine (indexFuncM_any M A n c l K caps p w0 _ hw0 hl hn hls hp).mono ?_
  rintro e w1 ⟨rfl, hb1⟩
  go_wp2
  go_ret
  exact ⟨ret_bool HE.out, hb1⟩
theorem cfU11 (args : Array Value) (W : World) : (callFunc 33 args).run Tryz.prog W = .ok (.enter 33 args) W := by kernel_rfl
theorem cfU1 (args : Array Value) (W : World) : (callFunc 31 args).run Tryz.prog W = .ok (.enter 31 args) W := by kernel_rfl
set_option maxHeartbeats 400000 in
theorem u11_any (g : Nat) (tag el : List UInt8) (w : World) (hc : w.cell? ⟨g, 0, none⟩ = some (.string (bs tag))) (ht : tag.length ≤ 140737488355328) (he : el.length ≤ 140737488355328) :
    Calls Tryz.prog 33 #[.string (bs el), .pointer (some ⟨g, 0, none⟩)] w fun x w' => x = .returned (.bool (Val.hitB tag el)) ∧ Below w.heap.size w w' := by
  have hS := same_p el tag false w he ht
  by_cases hq : el = [42]
  · have HH : Hid (Val.hitB tag el = true) := Lib.hid (by unfold Val.hitB; rw [hq]; rfl)
    clear hS
    subst hq
    go_enter Tryz.func33, Tryz.ntmps33
    go_wp2_with fail
    go_ret
    exact ⟨ret_bool HH.out.symm, Below.refl _ _⟩
  · have HH : Hid (Val.hitB tag el = sameR el tag false) := Lib.hid (by unfold Val.hitB; rw [show (el == [42]) = false by simpa using hq]; rfl)
    generalize sameR el tag false = r at *
    go_enter Tryz.func33, Tryz.ntmps33
    go_wp2_with fail
    refine hS.mono ?_
    rintro x w1 ⟨rfl, rfl⟩
    go_wp2
    go_ret
    exact ⟨ret_bool (by rw [HH.out, show (el == [42]) = false by simpa using hq]; rfl), Below.refl _ _⟩
set_option maxHeartbeats 400000 in
theorem u1_any (g : Nat) (tag v : List UInt8) (w : World) (hc : w.cell? ⟨g, 0, none⟩ = some (.string (bs tag))) (ht : tag.length ≤ 140737488355328) (hv : v.length ≤ 4398046511104) :
    Calls Tryz.prog 31 #[.string (bs v), .pointer (some ⟨g, 0, none⟩)] w fun x w' => x = .returned (.bool (Val.hitsB tag v)) ∧ Below w.heap.size w w' := by
  have hg : g < w.heap.size := World.block_lt_of_cell? w ⟨g, 0, none⟩ hc
  have HL : Hid ((listL v).length ≤ v.length + 1) := Lib.hid (list_len v)
  have HE : Hid (∀ x ∈ listL v, x.length ≤ v.length) := Lib.hid (fun x hx => list_each v hx)
  have HH : Hid ((listL v).any (Val.hitB tag) = Val.hitsB tag v) := Lib.hid rfl
  generalize Val.hitsB tag v = R at *
  go_enter Tryz.func31, Tryz.ntmps31
  go_wp2_with fail
  refine (list_own v _ hv).mono ?_
  rintro x w1 ⟨A1, n1, c1, rfl, hown1, hb1⟩
  have hr1 := hown1.rd
  clear hown1
  generalize listL v = L at *
  have hn1 : n1 ≤ 4398046511105 := by have := HL.out; have := hr1.1; omega
  go_wp2_with fail
  refine (containsFuncM_any 4398046511104 A1 n1 c1 L 33 #[.pointer (some ⟨g, 0, none⟩)] (Val.hitB tag) w1 w1 (Below.refl _ _) hr1 (by omega) (fun x hx => Nat.le_trans (HE.out x hx) hv) ?_).mono ?_
  · refine ⟨cfU11, fun W s hW hs => u11_any g tag s W ?_ ht (by omega)⟩
    rw [hW.cell (p := ⟨g, 0, none⟩) (Nat.lt_of_lt_of_le hg hb1.size), hb1.cell (p := ⟨g, 0, none⟩) hg]; exact hc
  rintro x w2 ⟨rfl, hb2⟩
  go_wp2
  go_ret
  exact ⟨ret_bool HH.out, bnext hb1 hb2 hb1.size⟩
set_option maxHeartbeats 4000000 in
theorem unch_p (Ma : Nat) (Q : Option Addr) (qn qc : Nat) (ask : List Fld) (st : Int) (rs : List UInt8) (minor : Int) (A : Option Addr) (n c : Nat) (l : List Fld) (w : World) (hq : RdF w Q qn ask) (hqn : qn ≤ 1048576) (hqo : FlenOK ask) (hqv : ∀ f ∈ ask, f.2.length ≤ Ma) (hqM : qn * (2 + Ma) ≤ 4398046511104) (hMa : Ma ≤ 4398046511104) (hl : RdF w A n l) (hn : n ≤ 1048576) (hls : FlenS l) :
    Calls Tryz.prog 17 #[.slice Q qn qc, respV st rs minor A n c] w fun x w' => x = .returned (.bool (Val.unchL ask st l)) ∧ Below w.heap.size w w' := by
  unfold respV
  have hvv : ∀ nm, ∀ v ∈ valuesL ask nm, v.length ≤ Ma := fun nm v hv => by
    unfold valuesL at hv
    obtain ⟨f, hf, rfl⟩ := List.mem_map.1 hv
    exact hqv f (List.mem_filter.1 hf).1
  clear hqv
  have hb0 := alloc_below w (.cells #[.int .i64 st, .string (bs rs), .int .i64 minor, .slice A n c] 24)
  have hr1 := heap_alloc_new w (.cells #[.int .i64 st, .string (bs rs), .int .i64 minor, .slice A n c] 24)
  have hsz : w.heap.size + 1 ≤ (w.alloc (.cells #[.int .i64 st, .string (bs rs), .int .i64 minor, .slice A n c] 24)).heap.size := by simp
  have hgl := Frs.get_len hls (by rw [hl.1]; exact hn) Val.etagN
  have HVl : Hid ((valuesL ask Val.inmN).length ≤ ask.length) := Lib.hid (values_le ask Val.inmN)
  by_cases hst : st = 200
  · subst hst
    have HU : Hid (Val.unchL ask 200 l = if (valuesL ask Val.inmN).isEmpty = true then (Frs.momO ask Val.imsN && (Frs.momO l Frs.lmN && decide (Frs.momV l Frs.lmN ≤ Frs.momV ask Val.imsN))) else (valuesL ask Val.inmN).any (Val.hitsB (Frs.getL l Val.etagN))) := Lib.hid rfl
    generalize Val.unchL ask 200 l = R at *
    go_enter Tryz.func17, Tryz.ntmps17
    go_upto_region 1 with fail
    generalize w.alloc (.cells #[.int .i64 200, .string (bs rs), .int .i64 minor, .slice A n c] 24) = w2 at *
    replace hq := hq.step hb0
    replace hl := hl.step hb0
    obtain ⟨a0, a1, a2, a3, -⟩ := row_facts4 hr1
    go_wp2_with fail
    refine (values_own Q qn qc ask Val.InmN _ hq (by omega) hqo (by decide)).mono ?_
    rintro x w3 ⟨A3, n3, c3, rfl, hown3, hb3⟩
    clear a0 a1 a2 a3
    rw [valuesL_nameG (a := Val.InmN) (b := Val.inmN) (by decide)] at hown3
    replace hr1 := row_keep hr1 hb3
    replace hb0 := bnext hb0 hb3 hb0.size
    replace hq := hq.step hb3
    replace hl := hl.step hb3
    have hr3 := hown3.rd
    clear hown3 hb3
    have hn3 : n3 ≤ 1048576 := by have := HVl.out; have := hr3.1; have := hq.1; omega
    by_cases he : (valuesL ask Val.inmN).isEmpty = true
    · have hn0 : n3 = 0 := by have h := hr3.1; rw [List.isEmpty_iff.1 he] at h; exact h.symm
      subst hn0
      rw [he] at HU
      have HU2 : Hid (R = (Frs.momO ask Val.imsN && (Frs.momO l Frs.lmN && decide (Frs.momV l Frs.lmN ≤ Frs.momV ask Val.imsN)))) := Lib.hid (by rw [HU.out]; rfl)
      clear HU hr3 he hgl
      have hC1 := moment18_anyM Ma Q qn qc ask Val.ImsN w3 hq hqn hqo (hvv _) hqM (by decide)
      rw [show Frs.getL ask Val.ImsN = Frs.getL ask Val.imsN from Frs.get_name rfl, show Frs.momV ask Val.ImsN = Frs.momV ask Val.imsN from Frs.momV_name rfl, show Frs.momO ask Val.ImsN = Frs.momO ask Val.imsN from Frs.momO_name rfl] at hC1
      have HC2 : Hid (∀ W, Below w3.heap.size w3 W → Calls Tryz.prog 22 #[.slice A n c, .string (bs Frs.LmN)] W fun x w' => x = .returned (.tuple #[.string (bs (Frs.getL l Frs.lmN)), .int .i64 (Frs.momV l Frs.lmN), .bool (Frs.momO l Frs.lmN)]) ∧ Below W.heap.size W w') := Lib.hid fun W hb => by
        have h := moment18_any A n c l Frs.LmN W (hl.step hb) hn hls (by decide)
        rwa [show Frs.getL l Frs.LmN = Frs.getL l Frs.lmN from Frs.get_name rfl, show Frs.momV l Frs.LmN = Frs.momV l Frs.lmN from Frs.momV_name rfl, show Frs.momO l Frs.LmN = Frs.momO l Frs.lmN from Frs.momO_name rfl] at h
      generalize Frs.getL ask Val.imsN = s1 at *
      generalize Frs.getL l Frs.lmN = s2 at *
      generalize Frs.momV ask Val.imsN = v1 at *
      generalize Frs.momV l Frs.lmN = v2 at *
      generalize Frs.momO ask Val.imsN = o1 at *
      generalize Frs.momO l Frs.lmN = o2 at *
      clear hq hl hls hvv
      obtain ⟨a0, a1, a2, a3, -⟩ := row_facts4 hr1
      have hb0b := hb0
      go_wp2_with fail
      refine hC1.mono ?_
      rintro x w4 ⟨rfl, hb4⟩
      clear hC1
      clear a0 a1 a2 a3
      replace hr1 := row_keep hr1 hb4
      replace hb0 := bnext hb0 hb4 hb0.size
      obtain ⟨a0, a1, a2, a3, -⟩ := row_facts4 hr1
      have hC2 := HC2.out _ hb4
      clear HC2
      go_wp2_with fail
      refine hC2.mono ?_
      rintro x w5 ⟨rfl, hb5⟩
      clear hC2
      clear a0 a1 a2 a3
      replace hb0 := bnext hb0 hb5 hb0.size
      clear hb4 hb5 hr1
      cases o1 <;> cases o2
      all_goals
        go_wp2
        go_ret
        exact ⟨ret_bool (by rw [HU2.out]; simp), hb0⟩
    · have hn0 : 0 < n3 := by have := hr3.1; rw [← this]; exact List.length_pos_iff.2 (by intro h; rw [h] at he; exact absurd rfl he)
      have HU2 : Hid ((valuesL ask Val.inmN).any (Val.hitsB (Frs.getL l Val.etagN)) = R) := Lib.hid (by rw [HU.out]; cases hv : valuesL ask Val.inmN with
        | nil => rw [hv] at he; exact absurd rfl he
        | cons a b => rfl)
      clear HU he
      have hvl := hvv Val.inmN
      have hC := get_any A n c l Val.EtagN w3 hl hn hls (by decide)
      change Calls Tryz.prog 21 _ _ fun x w' => x = .returned (.tuple #[.string (bs (Frs.getL l Val.EtagN)), .bool _]) ∧ _ at hC
      rw [show Frs.getL l Val.EtagN = Frs.getL l Val.etagN from Frs.get_name rfl] at hC
      generalize (!(valuesL l Val.EtagN).isEmpty) = ve at *
      generalize valuesL ask Val.inmN = V at *
      generalize Frs.getL l Val.etagN = T at *
      clear hvv hl hls hq HVl
      obtain ⟨a0, a1, a2, a3, -⟩ := row_facts4 hr1
      go_wp2_with fail
      refine hC.mono ?_
      rintro x w4 ⟨rfl, hb4⟩
      clear hC
      clear a0 a1 a2 a3
      replace hr3 := hr3.step hb4
      replace hb0 := bnext hb0 hb4 hb0.size
      clear hb4 hr1
      go_upto_region 6 with fail
      have hal := alloc_below w4 (.cells #[.string (bs T)] 9)
      have hr4 := heap_alloc_new w4 (.cells #[.string (bs T)] 9)
      have hlt : w4.heap.size < (w4.alloc (.cells #[.string (bs T)] 9)).heap.size := by simp
      replace hr3 := hr3.step hal
      replace hb0 := bnext hb0 hal hb0.size
      generalize w4.alloc (.cells #[.string (bs T)] 9) = w5 at *
      generalize w4.heap.size = g5 at *
      clear hal
      go_wp2_with fail
      refine (containsFuncM_any Ma A3 n3 c3 V 31 #[.pointer (some ⟨g5, 0, none⟩)] (Val.hitsB T) w5 w5 (Below.refl _ _) hr3 (by omega) hvl ?_).mono ?_
      · refine ⟨cfU1, fun W s hW hs => u1_any g5 T s W ?_ (by omega) (by omega)⟩
        rw [hW.cell (p := ⟨g5, 0, none⟩) hlt, cell_of_row _ _ _ _ _ _ hr4]; rfl
      rintro x w6 ⟨rfl, hb6⟩
      go_wp2
      go_ret
      exact ⟨ret_bool HU2.out, bnext hb0 hb6 hb0.size⟩
  · have HU : Hid (Val.unchL ask st l = false) := Lib.hid (by unfold Val.unchL; rw [if_neg hst])
    have hq1 : (st != 200) = true := by simpa using hst
    generalize Val.unchL ask st l = R at *
    go_enter Tryz.func17, Tryz.ntmps17
    go_upto_region 1 with fail
    generalize w.alloc (.cells #[.int .i64 st, .string (bs rs), .int .i64 minor, .slice A n c] 24) = w2 at *
    clear hq hl hls hgl hvv HVl
    obtain ⟨a0, a1, a2, a3, -⟩ := row_facts4 hr1
    go_wp2
    go_ret
    exact ⟨ret_bool HU.out.symm, hb0⟩
set_option maxHeartbeats 4000000 in
theorem unch_r (Ma : Nat) (Q : Option Addr) (qn qc : Nat) (ask : List Fld) (st : Int) (rs : List UInt8) (minor : Int) (A : Option Addr) (n c : Nat) (l : List Fld) (w : World) (hq : RdF w Q qn ask) (hqn : qn ≤ 1048576) (hqo : FlenOK ask) (hqv : ∀ f ∈ ask, f.2.length ≤ Ma) (hqM : qn * (2 + Ma) ≤ 4398046511104) (hMa : Ma ≤ 4398046511104) (hl : RdF w A n l) (hn : n ≤ 1048576) (hls : FlenS l) :
    Calls Tryz.prog 18 #[.slice Q qn qc, respV st rs minor A n c] w fun x w' => x = .returned (.bool (Val.unchL ask st l)) ∧ Below w.heap.size w w' := by
  unfold respV
  have hvv : ∀ nm, ∀ v ∈ valuesL ask nm, v.length ≤ Ma := fun nm v hv => by
    unfold valuesL at hv
    obtain ⟨f, hf, rfl⟩ := List.mem_map.1 hv
    exact hqv f (List.mem_filter.1 hf).1
  clear hqv
  have hb0 := alloc_below w (.cells #[.int .i64 st, .string (bs rs), .int .i64 minor, .slice A n c] 24)
  have hr1 := heap_alloc_new w (.cells #[.int .i64 st, .string (bs rs), .int .i64 minor, .slice A n c] 24)
  have hsz : w.heap.size + 1 ≤ (w.alloc (.cells #[.int .i64 st, .string (bs rs), .int .i64 minor, .slice A n c] 24)).heap.size := by simp
  have hgl := Frs.get_len hls (by rw [hl.1]; exact hn) Val.etagN
  have HVl : Hid ((valuesL ask Val.inmN).length ≤ ask.length) := Lib.hid (values_le ask Val.inmN)
  by_cases hst : st = 200
  · subst hst
    have HU : Hid (Val.unchL ask 200 l = if (valuesL ask Val.inmN).isEmpty = true then (Frs.momO ask Val.imsN && (Frs.momO l Frs.lmN && decide (Frs.momV l Frs.lmN ≤ Frs.momV ask Val.imsN))) else (valuesL ask Val.inmN).any (Val.hitsB (Frs.getL l Val.etagN))) := Lib.hid rfl
    generalize Val.unchL ask 200 l = R at *
    go_enter Tryz.func18, Tryz.ntmps18
    go_upto_region 1 with fail
    generalize w.alloc (.cells #[.int .i64 200, .string (bs rs), .int .i64 minor, .slice A n c] 24) = w2 at *
    replace hq := hq.step hb0
    replace hl := hl.step hb0
    obtain ⟨a0, a1, a2, a3, -⟩ := row_facts4 hr1
    go_wp2_with fail
    refine (valuesR_own Q qn qc ask Val.inmN _ hq (by omega) hqo (by decide)).mono ?_
    rintro x w3 ⟨A3, n3, c3, rfl, hown3, hb3⟩
    clear a0 a1 a2 a3
    replace hr1 := row_keep hr1 hb3
    replace hb0 := bnext hb0 hb3 hb0.size
    replace hq := hq.step hb3
    replace hl := hl.step hb3
    have hr3 := hown3.rd
    clear hown3 hb3
    have hn3 : n3 ≤ 1048576 := by have := HVl.out; have := hr3.1; have := hq.1; omega
    by_cases he : (valuesL ask Val.inmN).isEmpty = true
    · have hn0 : n3 = 0 := by have h := hr3.1; rw [List.isEmpty_iff.1 he] at h; exact h.symm
      subst hn0
      rw [he] at HU
      have HU2 : Hid (R = (Frs.momO ask Val.imsN && (Frs.momO l Frs.lmN && decide (Frs.momV l Frs.lmN ≤ Frs.momV ask Val.imsN)))) := Lib.hid (by rw [HU.out]; rfl)
      clear HU hr3 he hgl
      have hC1 := second18_anyM Ma Q qn qc ask Val.imsN w3 hq hqn hqo (hvv _) hqM (by decide)
      have HC2 : Hid (∀ W, Below w3.heap.size w3 W → Calls Tryz.prog 25 #[.slice A n c, .string (bs Frs.lmN)] W fun x w' => x = .returned (.int .i64 (Frs.secdL l Frs.lmN)) ∧ Below W.heap.size W w') := Lib.hid fun W hb => second18_any A n c l Frs.lmN W (hl.step hb) hn hls (by decide)
      have hm1 := Frs.mom_bd ask Val.imsN
      have hm2 := Frs.mom_bd l Frs.lmN
      have hd1 : Frs.secdL ask Val.imsN = if Frs.momO ask Val.imsN = true then Frs.momV ask Val.imsN else -1 := rfl
      have hd2 : Frs.secdL l Frs.lmN = if Frs.momO l Frs.lmN = true then Frs.momV l Frs.lmN else -1 := rfl
      have hU3 := HU2.out
      clear HU2
      generalize Frs.secdL ask Val.imsN = d1 at *
      generalize Frs.secdL l Frs.lmN = d2 at *
      generalize Frs.momV ask Val.imsN = v1 at *
      generalize Frs.momV l Frs.lmN = v2 at *
      generalize Frs.momO ask Val.imsN = o1 at *
      generalize Frs.momO l Frs.lmN = o2 at *
      have HU2 : Hid (R = (decide (0 ≤ d1) && (decide (0 ≤ d2) && decide (d2 ≤ d1)))) := Lib.hid (by
        rw [hU3, hd1, hd2]
        have h1 := hm1.1
        have h2 := hm2.1
        cases o1 <;> cases o2 <;> simp [h1, h2])
      clear hd1 hd2 hm1 hm2 hU3 hq hl hls hvv
      obtain ⟨a0, a1, a2, a3, -⟩ := row_facts4 hr1
      have hb0b := hb0
      go_wp2_with fail
      refine hC1.mono ?_
      rintro x w4 ⟨rfl, hb4⟩
      clear hC1
      clear a0 a1 a2 a3
      replace hr1 := row_keep hr1 hb4
      replace hb0 := bnext hb0 hb4 hb0.size
      obtain ⟨a0, a1, a2, a3, -⟩ := row_facts4 hr1
      have hC2 := HC2.out _ hb4
      clear HC2
      go_wp2_with fail
      refine hC2.mono ?_
      rintro x w5 ⟨rfl, hb5⟩
      clear hC2
      clear a0 a1 a2 a3
      replace hb0 := bnext hb0 hb5 hb0.size
      clear hb4 hb5 hr1
      by_cases h1 : 0 ≤ d1
      · by_cases h2 : 0 ≤ d2
        · go_wp2
          go_ret
          exact ⟨ret_bool (by rw [HU2.out]; first | (simp [h1, h2]; done) | (simp [h1]; done) | (simp; intros; omega)), hb0⟩
        · go_wp2
          go_ret
          exact ⟨ret_bool (by rw [HU2.out]; first | (simp [h1, h2]; done) | (simp [h1]; done) | (simp; intros; omega)), hb0⟩
      · go_wp2
        go_ret
        exact ⟨ret_bool (by rw [HU2.out]; first | (simp [h1, h2]; done) | (simp [h1]; done) | (simp; intros; omega)), hb0⟩
    · have hn0 : 0 < n3 := by have := hr3.1; rw [← this]; exact List.length_pos_iff.2 (by intro h; rw [h] at he; exact absurd rfl he)
      have HU2 : Hid ((valuesL ask Val.inmN).any (Val.hitsB (Frs.getL l Val.etagN)) = R) := Lib.hid (by rw [HU.out]; cases hv : valuesL ask Val.inmN with
        | nil => rw [hv] at he; exact absurd rfl he
        | cons a b => rfl)
      clear HU he
      have hvl := hvv Val.inmN
      have hC := getR_any A n c l Val.etagN w3 hl hn hls (by decide)
      change Calls Tryz.prog 23 _ _ fun x w' => x = .returned (.tuple #[.string (bs (Frs.getL l Val.etagN)), .bool _]) ∧ _ at hC
      generalize (!(valuesL l Val.etagN).isEmpty) = ve at *
      generalize valuesL ask Val.inmN = V at *
      generalize Frs.getL l Val.etagN = T at *
      clear hvv hl hls hq HVl
      obtain ⟨a0, a1, a2, a3, -⟩ := row_facts4 hr1
      go_wp2_with fail
      refine hC.mono ?_
      rintro x w4 ⟨rfl, hb4⟩
      clear hC
      clear a0 a1 a2 a3
      replace hr3 := hr3.step hb4
      replace hb0 := bnext hb0 hb4 hb0.size
      clear hb4 hr1
      go_wp2
      go_loopw [8] (fun t wr => ∃ k : Nat, k ≤ n3 ∧ t = .int .i64 k ∧ Hid ((V.take k).any (Val.hitsB T) = false) ∧ RdS wr A3 n3 V ∧ Below w.heap.size w wr) (fun t _ => n3 - (intOf t).toNat)
      case atStart => exact ⟨0, by omega, rfl, Lib.hid (by simp), hr3, hb0⟩
      case round =>
        obtain ⟨k, hk, rfl, HA, hrd, hbr⟩ := hrel
        by_cases hlt : k < n3
        · obtain ⟨g, o, v, rfl, hg, HX, hc1⟩ := hrd.at_ hlt
          have hvl1 : v.length ≤ 4398046511104 := Nat.le_trans (hvl _ (mem_of_get? HX.out)) hMa
          have HT : Hid ((V.take (k + 1)).any (Val.hitsB T) = (listL v).any (Val.hitB T)) := Lib.hid (by rw [take_snoc? HX.out, List.any_append, HA.out]; simp [Val.hitsB])
          have HY : Hid (Val.hitsB T v = true → R = true) := Lib.hid (fun h => by rw [← HU2.out]; exact List.any_eq_true.2 ⟨v, mem_of_get? HX.out, h⟩)
          have HL : Hid ((listL v).length ≤ v.length + 1) := Lib.hid (list_len v)
          have HE : Hid (∀ x ∈ listL v, x.length ≤ v.length) := Lib.hid (fun x hx => list_each v hx)
          have HYd : Hid ((listL v).any (Val.hitB T) = Val.hitsB T v) := Lib.hid rfl
          go_wp2_with fail
          refine (listR_own v _ hvl1).mono ?_
          rintro x w5 ⟨A5, n5, c5, rfl, hown5, hb5⟩
          have hr5 := hown5.rd
          clear hown5
          generalize listL v = L at *
          have hn5 : n5 ≤ 4398046511105 := by have := HL.out; have := hr5.1; omega
          have hrd5 := hrd.step hb5
          have hbr5 := bnext hbr hb5 hbr.size
          have HLe : Hid ((L.take n5) = L) := Lib.hid (List.take_of_length_le (by rw [hr5.1]; exact Nat.le_refl _))
          clear hrd hbr hb5 hc1 hg
          obtain ⟨wo, rfl⟩ : ∃ wo, wo = wr := ⟨_, rfl⟩
          go_wp2
          go_loopw [10] (fun t wr => ∃ j : Nat, j ≤ n5 ∧ t = .int .i64 j ∧ Hid ((L.take j).any (Val.hitB T) = false) ∧ RdS wr A5 n5 L ∧ RdS wr (some ⟨g, o, none⟩) n3 V ∧ Below w.heap.size w wr) (fun t _ => n5 - (intOf t).toNat)
          case atStart => exact ⟨0, by omega, rfl, Lib.hid (by simp), hr5, hrd5, hbr5⟩
          case round =>
            obtain ⟨j, hj, rfl, HB, hE, hrd, hbr⟩ := hrel
            by_cases hlj : j < n5
            · obtain ⟨g2, o2, y, rfl, hg2, HZ, hd1⟩ := hE.at_ hlj
              have hyl : y.length ≤ 140737488355328 := by have := HE.out y (mem_of_get? HZ.out); omega
              have HT2 : Hid ((L.take (j + 1)).any (Val.hitB T) = Val.hitB T y) := Lib.hid (by rw [take_snoc? HZ.out, List.any_append, HB.out]; simp)
              have HH : Hid (Val.hitB T y = true → R = true) := Lib.hid (fun h => HY.out (by rw [← HYd.out]; exact List.any_eq_true.2 ⟨y, mem_of_get? HZ.out, h⟩))
              have hS := same_r y T false wr hyl (by omega)
              by_cases hq : y = [42]
              · have HF := Lib.hid (HH.out (by unfold Val.hitB; rw [hq]; rfl))
                clear hS
                subst hq
                go_wp2
                go_ret
                exact ⟨ret_bool HF.out.symm, hbr⟩
              · have hq' : (y == [42]) = false := by simpa using hq
                have hhe : Val.hitB T y = sameR y T false := by unfold Val.hitB; rw [hq']; rfl
                rw [hhe] at HT2 HH
                clear hhe
                generalize sameR y T false = r at *
                go_wp2_with fail
                refine hS.mono ?_
                rintro x w6 ⟨rfl, rfl⟩
                clear hS
                cases r with
                | false =>
                  go_wp2
                  go_roundw
                  case rel => exact ⟨j + 1, by omega, by go_num, HT2, hE, hrd, hbr⟩
                  case measure => simp [intOf]; omega
                | true =>
                  have HF := Lib.hid (HH.out rfl)
                  go_wp2
                  go_ret
                  exact ⟨ret_bool HF.out.symm, hbr⟩
            · obtain rfl : j = n5 := by omega
              go_wp2
              go_roundw
              case rel => exact ⟨k + 1, by omega, by go_num, Lib.hid (by rw [HT.out, ← HB.out, HLe.out]), hrd, hbr⟩
              case measure => simp [intOf]; omega
        · obtain rfl : k = n3 := by omega
          have HF : Hid (R = false) := Lib.hid (by rw [← HU2.out, ← HA.out, List.take_of_length_le (by rw [hrd.1]; exact Nat.le_refl _)])
          go_wp2
          go_ret
          exact ⟨ret_bool HF.out.symm, hbr⟩
  · have HU : Hid (Val.unchL ask st l = false) := Lib.hid (by unfold Val.unchL; rw [if_neg hst])
    have hq1 : (st != 200) = true := by simpa using hst
    generalize Val.unchL ask st l = R at *
    go_enter Tryz.func18, Tryz.ntmps18
    go_upto_region 1 with fail
    generalize w.alloc (.cells #[.int .i64 st, .string (bs rs), .int .i64 minor, .slice A n c] 24) = w2 at *
    clear hq hl hls hgl hvv HVl
    obtain ⟨a0, a1, a2, a3, -⟩ := row_facts4 hr1
    go_wp2
    go_ret
    exact ⟨ret_bool HU.out.symm, hb0⟩
end Go.Proofs.YtbigcdmkfcmegaaGreatDoor
