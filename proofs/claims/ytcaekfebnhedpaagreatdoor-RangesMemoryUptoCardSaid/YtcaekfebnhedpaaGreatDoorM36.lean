/- Joined texts: The reference's Apply where the response is handed on as it is. The conditions stand in each line. -/
import Derived.Test.YtcaekfebnhedpaaGreatDoorM32
import Derived.Test.YtcaekfebnhedpaaGreatDoorM33
import Derived.Test.YtcaekfebnhedpaaGreatDoorM34
import Derived.Test.YtcaekfebnhedpaaGreatDoorM35
set_option linter.unusedVariables false
set_option linter.unusedSimpArgs false
namespace Go.Proofs.YtcaekfebnhedpaaGreatDoor
open Go.RowKit

set_option maxRecDepth 100000
set_option maxHeartbeats 8000000 in
theorem rapply_keep (A : Option Addr) (n c : Nat) (q : List Fld) (st : Int) (rs : List UInt8) (minor : Int) (B : Option Addr) (m d : Nat) (l : List Fld) (Y : Option Addr) (k e : Nat) (b : List UInt8) (w : World) (ht : Tab w) (hM : MaxL w)
    (hq : RdF w A n q) (hn : n ≤ 1048576) (hqs : FlenS q) (hqj : (Frs.getL q Rg.rngR).length ≤ 1073741824) (hl : RdF w B m l) (hm : m ≤ 1048576) (hls : FlenS l) (hb : RdB w Y k b) (hk : k ≤ 4194304) (hke : k ≤ e) (hee : e ≤ maxLen) (has : Rg.asIs q st l b) :
    Calls Tryz.prog 18 #[.slice A n c, respV st rs minor B m d, .slice Y k e] w fun x w' => ApOut w minor (Rg.keepA st rs l b) x w' := by
  unfold respV
  have hee2 : (e : Int) ≤ 9223372036854775807 := by unfold maxLen at hee; omega
  have hb1 := alloc_below w (.cells #[.int .i64 st, .string (bs rs), .int .i64 minor, .slice B m d] 31)
  have hr1 := heap_alloc_new w (.cells #[.int .i64 st, .string (bs rs), .int .i64 minor, .slice B m d] 31)
  have hb2 := alloc_below (w.alloc (.cells #[.int .i64 st, .string (bs rs), .int .i64 minor, .slice B m d] 31)) (.cells #[.int .i64 0, .string ⟨#[]⟩, .int .i64 0, .slice none 0 0] 31)
  have hz2 := heap_alloc_new (w.alloc (.cells #[.int .i64 st, .string (bs rs), .int .i64 minor, .slice B m d] 31)) (.cells #[.int .i64 0, .string ⟨#[]⟩, .int .i64 0, .slice none 0 0] 31)
  rw [show (w.alloc (.cells #[.int .i64 st, .string (bs rs), .int .i64 minor, .slice B m d] 31)).heap.size = w.heap.size + 1 by simp] at hz2
  have hr2 := row_keep hr1 hb2
  have hb0 := bnext hb1 hb2 hb1.size
  have hsz2 : w.heap.size + 2 ≤ ((w.alloc (.cells #[.int .i64 st, .string (bs rs), .int .i64 minor, .slice B m d] 31)).alloc (.cells #[.int .i64 0, .string ⟨#[]⟩, .int .i64 0, .slice none 0 0] 31)).heap.size := by simp
  have hG : Hid (∀ W, Below w.heap.size w W → Calls Tryz.prog 43 #[.slice A n c, .string (bs Rg.rngR)] W fun x w' => x = .returned (.tuple #[.string (bs (Frs.getL q Rg.rngR)), .bool (!(valuesL q Rg.rngR).isEmpty)]) ∧ Below W.heap.size W w') := Lib.hid fun W hW => by
    have h := getR_any A n c q Rg.rngR W (hq.step hW) hn hqs (by decide)
    change Calls Tryz.prog 43 _ _ fun x w' => x = .returned (.tuple #[.string (bs (Frs.getL q Rg.rngR)), .bool (!(valuesL q Rg.rngR).isEmpty)]) ∧ _ at h
    rw [show Frs.getL q Rg.rngR = Frs.getL q Rg.rngR from Frs.get_name rfl, show valuesL q Rg.rngR = valuesL q Rg.rngR from valuesL_nameG rfl] at h
    exact h
  clear hr1 hb1 hb2
  have hPC : Hid (∀ W, Below w.heap.size w W → Calls Tryz.prog 12 #[.string (bs (Frs.getL q Rg.rngR)), .int .i64 (k : Int)] W fun x w' => RgOut W (Frs.getL q Rg.rngR) (k : Int) x w') := Lib.hid fun W hW => parse19_r (Frs.getL q Rg.rngR) (k : Int) W (maxl_b hM hW) hqj (by omega) (by omega)
  unfold RgOut at hPC
  have hHO : Hid (∀ W, Below w.heap.size w W → Calls Tryz.prog 44 #[.slice A n c, .agg #[.int .i64 st, .string (bs rs), .int .i64 minor, .slice B m d]] W fun x w' => x = .returned (.bool (Rg.holdsL q l)) ∧ Below W.heap.size W w') := Lib.hid fun W hW => holds_r A n c q st rs minor B m d l W (hq.step hW) hn hqs (hl.step hW) hm hls
  have hbl := hb.1
  unfold Rg.asIs at has
  rw [hbl] at has
  generalize Rg.holdsL q l = hh at *
  generalize Rg.parseL (Frs.getL q Rg.rngR) (k : Int) = PL at *
  obtain ⟨sp, er⟩ := PL
  generalize Frs.getL q Rg.rngR = V at *
  generalize hve : (!(valuesL q Rg.rngR).isEmpty) = ve at *
  dsimp only at *
  have hve2 : valuesL q Rg.rngR = [] → ve = false := fun h => by rw [← hve, h]; rfl
  clear hve
  by_cases hst : st = 200
  · subst hst
    cases ve with
    | false =>
      clear has hve2 hHO
      go_enter Tryz.func18, Tryz.ntmps18
      go_upto_region 1 with fail
      generalize (w.alloc (.cells #[.int .i64 200, .string (bs rs), .int .i64 minor, .slice B m d] 31)).alloc (.cells #[.int .i64 0, .string ⟨#[]⟩, .int .i64 0, .slice none 0 0] 31) = w2 at *
      obtain ⟨a0, a1, a2, a3, -⟩ := row_facts4 hr2
      have hC := copyResponse_own 200 rs minor B m d l w2 (hl.step hb0) (by omega)
      unfold respV at hC
      go_wp2_with fail
      refine hC.mono ?_
      rintro x w2b ⟨Ac, nc, cc, rfl, hW8, hb2b⟩
      clear hC a0 a1 a2 a3
      replace hr2 := row_keep hr2 hb2b
      replace hz2 := row_keep hz2 hb2b
      replace hb0 := bnext hb0 hb2b hb0.size
      replace hW8 := hW8.mono (show w.heap.size + 2 ≤ w2.heap.size from hsz2)
      replace hsz2 : w.heap.size + 2 ≤ w2b.heap.size := Nat.le_trans hsz2 hb2b.size
      clear hb2b
      have hal8 := alloc_below w2b (.cells #[.int .i64 200, .string (bs rs), .int .i64 minor, .slice Ac nc cc] 31)
      have h82 := heap_alloc_new w2b (.cells #[.int .i64 200, .string (bs rs), .int .i64 minor, .slice Ac nc cc] 31)
      have hg8a : w2b.heap.size < (w2b.alloc (.cells #[.int .i64 200, .string (bs rs), .int .i64 minor, .slice Ac nc cc] 31)).heap.size := by simp
      go_upto_region 2 with fail
      replace hr2 := row_keep hr2 hal8
      replace hz2 := row_keep hz2 hal8
      replace hW8 := hW8.step hal8
      replace hb0 := bnext hb0 hal8 hb0.size
      clear hal8
      generalize w2b.alloc (.cells #[.int .i64 200, .string (bs rs), .int .i64 minor, .slice Ac nc cc] 31) = w2c at *
      generalize w2b.heap.size = g8 at *
      go_wp2_with fail
      refine (hG.out _ hb0).mono ?_
      rintro x w3 ⟨rfl, hb3⟩
      have hr3 := row_keep hr2 hb3
      have hz3 := row_keep hz2 hb3
      have h83 := row_keep h82 hb3
      replace hW8 := hW8.step hb3
      replace hb0 := bnext hb0 hb3 hb0.size
      have hg8b : g8 < w3.heap.size := Nat.lt_of_lt_of_le hg8a hb3.size
      clear hr2 hz2 h82 hg8a hb3 hG
      go_wp2_with fail
      refine (hPC.out _ hb0).mono ?_
      rintro x w4 ⟨A4, n4, c4, rfl, hP, hb4⟩
      have hr4 := row_keep hr3 hb4
      have hz4 := row_keep hz3 hb4
      have h84 := row_keep h83 hb4
      replace hW8 := hW8.step hb4
      replace hP := hP.mono (show g8 + 1 ≤ w3.heap.size by omega)
      replace hb0 := bnext hb0 hb4 hb0.size
      have hg8 : g8 < w4.heap.size := Nat.lt_of_lt_of_le hg8b hb4.size
      clear hr3 hz3 h83 hg8b hb4 hPC
      obtain ⟨a0, a1, a2, a3, -⟩ := row_facts4 hr4
      go_upto_region 5 with fail
      clear a0 a1 a2 a3 hP
      have ok : TrOK (w.heap.size + 1) [tB 2 56 (g8 + 1) b, tB 4 7 (g8 + 1) b] := tB_ok (by omega) (tB_ok (by omega) TrOK.nil)
      have HB : Hid (∀ W, Gb (w.heap.size + 1) w4 W → Below w.heap.size w W) := Lib.hid fun W hG => hb0.trans (hG.below (by omega) (by omega))
      refine DA.wp_region (n := 5) (V := fun iop uop => match iop with | 0 => uop = .agg #[.int .i64 200, .string (bs rs), .int .i64 minor, .slice Ac nc cc] | 1 => uop = .slice Y k e | 2 => ∃ (A : Option Addr) (n c : Nat), uop = .slice A n c | 3 => uop = undef | 4 => ∃ (A : Option Addr) (n c : Nat), uop = .slice A n c | _ => uop = undef) (S := SR w4 (w.heap.size + 1) #[.int .i64 0, .string ⟨#[]⟩, .int .i64 0, .slice none 0 0] (fun _ => #[.int .i64 200, .string (bs rs), .int .i64 minor, .slice Ac nc cc]) 31 0 3 54 186 [tB 2 56 (g8 + 1) b, tB 4 7 (g8 + 1) b]) (by kernel_rfl) rfl (SR.start rfl hz4) ?_
      refine' DA.Det.takeE (i := 0) (v := _) rfl (fun _ => Iff.rfl) (by kernel_rfl) (by kernel_rfl) (by kernel_rfl) (DA.YS.pure rfl rfl ?rprk1_0 ?sprk1_0) ?nprk1_0
      case rprk1_0 => intro a' L W hS; obtain ⟨k0, k1, k2, k3, -⟩ := row_facts4 ((hS.grow.block g8 hg8 (by omega)).trans h84); go_simp; first | rfl | skip
      case sprk1_0 => exact fun a' L W hL h => (SR.other ok (by intro t ht; simp only [List.mem_cons, List.not_mem_nil, or_false] at ht; rcases ht with rfl | rfl <;> simp) (by decide) (by simp) hL h (Below.refl _ _))
      try simp only [Act.put, List.setIfInBounds_toArray, List.set_cons_zero, List.set_cons_succ]
      refine' DA.Det.takeE (i := 1) (v := _) rfl (fun _ => Iff.rfl) (by kernel_rfl) (by kernel_rfl) (by kernel_rfl) (DA.YS.pure rfl rfl ?rprk1_1 ?sprk1_1) ?nprk1_1
      case rprk1_1 => intro a' L W hS; go_simp; first | rfl | skip
      case sprk1_1 => exact fun a' L W hL h => (SR.other ok (by intro t ht; simp only [List.mem_cons, List.not_mem_nil, or_false] at ht; rcases ht with rfl | rfl <;> simp) (by decide) (by simp) hL h (Below.refl _ _))
      try simp only [Act.put, List.setIfInBounds_toArray, List.set_cons_zero, List.set_cons_succ]
      refine' DA.Det.takeL (i := 2) rfl ⟨_, none, 0, 0, rfl⟩ (by kernel_rfl) (by kernel_rfl) (by kernel_rfl) (callE (f := _) (args := _) rfl ?rprk1_2 ?cprk1_2) ?nprk1_2
      case rprk1_2 => intro W; go_simp; constructor <;> rfl
      case cprk1_2 =>
        intro a' L W he hL hd hS
        have hW := HB.out W hS.grow
        refine (copyBytes_own Y k e b W (hb.step hW) (by omega)).mono ?_
        rintro e w9 ⟨A9, n9, c9, rfl, ho9, hb9⟩
        have hR9 : (tB 2 56 (g8 + 1) b).R w9 (.slice A9 n9 c9) := ⟨A9, n9, c9, rfl, (ho9).mono (Nat.le_trans (show g8 + 1 ≤ w4.heap.size from hg8) hS.grow.size)⟩
        exact ⟨_, rfl, ⟨A9, n9, c9, rfl⟩, SR.made (tB 2 56 (g8 + 1) b) ok (by intro t ht; simp only [List.mem_cons, List.not_mem_nil, or_false] at ht; rcases ht with rfl | rfl; exact .inl rfl; exact .inr (by simp)) (by simp) (by simp) (by simp) hL hS hb9 hR9⟩
      rintro v2 ⟨Ark1_2, nrk1_2, crk1_2, rfl⟩
      try simp only [Act.put, List.setIfInBounds_toArray, List.set_cons_zero, List.set_cons_succ]
      refine' DA.Det.takeE (i := 3) (v := undef) rfl (fun _ => Iff.rfl) (by kernel_rfl) (by kernel_rfl) (by kernel_rfl) (DA.YS.store (f := _) rfl rfl ?rprk1_3) ?nprk1_3
      case rprk1_3 =>
        intro a' L W he hL hd hS
        have hbx := hS.box0 (DA.getD_un hL)
        have hiq := hd ⟨0, .data⟩ (by simp) (by kernel_rfl)
        obtain ⟨z0, z1, z2, z3, y0, y1, y2, y3⟩ := row_facts4 hbx
        constructor
        · go_simp; rfl
        · exact SR.stored (by intro t ht; simp only [List.mem_cons, List.not_mem_nil, or_false] at ht; rcases ht with rfl | rfl <;> simp) (by decide) hL hiq hS (slot_val (he (.tmp 54) (by simp [Op.operands, Call.operands])) (by simp [undef, Act.eval])) Gb.set4 (heap_set4 hbx) ok.set4
      try simp only [Act.put, List.setIfInBounds_toArray, List.set_cons_zero, List.set_cons_succ]
      refine' DA.Det.takeL (i := 4) rfl ⟨_, none, 0, 0, rfl⟩ (by kernel_rfl) (by kernel_rfl) (by kernel_rfl) (pureE (v := _) rfl ?rprk1_4 ?cprk1_4) ?nprk1_4
      case rprk1_4 => intro W; go_simp; first | rfl | skip
      case cprk1_4 =>
        intro a' L W he hL hd hS
        have hR8 := hS.see (t := tB 2 56 (g8 + 1) b) (by simp) (hd ⟨2, .data⟩ (by simp) (by kernel_rfl)) (he (.tmp 56) (by simp [Op.operands, Call.operands])) (by simp [undef, Act.eval])
        obtain ⟨A8, n8, c8, e8, ho8⟩ := hR8
        have e8' : (Value.slice Ark1_2 nrk1_2 crk1_2) = .slice A8 n8 c8 := e8
        refine ⟨⟨_, _, _, rfl⟩, SR.made (tB 4 7 (g8 + 1) b) ok (by intro t ht; simp only [List.mem_cons, List.not_mem_nil, or_false] at ht; rcases ht with rfl | rfl; exact .inr (by simp); exact .inl rfl) (by simp) (by simp) (by simp) hL hS (Below.refl _ _) ⟨_, _, _, rfl, ?_⟩⟩
        rw [e8']; exact ho8
      rintro v4 ⟨Ark1_4, nrk1_4, crk1_4, rfl⟩
      try simp only [Act.put, List.setIfInBounds_toArray, List.set_cons_zero, List.set_cons_succ]
      refine DA.Det.done (by kernel_rfl) (fun W hS => ?_) _
      obtain ⟨u, -, hbx⟩ := hS.box1 rfl
      obtain ⟨v7, e7, A9, n9, c9, hv, hO⟩ := hS.row (tB 4 7 (g8 + 1) b) (by simp) rfl
      have e7' : (Value.slice Ark1_4 nrk1_4 crk1_4) = v7 := Option.some.inj e7
      subst hv
      rw [← e7'] at hO
      have hF9 := own_gb hW8 (by omega) hS.grow
      have hW := HB.out W hS.grow
      obtain ⟨c0, c1, c2, c3, -⟩ := row_facts4 hbx
      clear hS e7 e7' hbx HB hr4 hz4 h84 hW8
      go_wp2
      refine bodyPost_ret (v := .tuple #[.agg #[.int .i64 200, .string (bs rs), .int .i64 minor, .slice Ac nc cc], .slice Ark1_4 nrk1_4 crk1_4]) (by simp [results, Tryz.results18, go_sem, c0, c1, c2, c3]) rfl ⟨_, _, _, _, _, _, rfl, own_mono hF9 (by omega), own_mono hO (by omega), hW⟩
    | true =>
      by_cases he190 : er = 190
      · subst he190
        clear has hve2 hHO
        go_enter Tryz.func18, Tryz.ntmps18
        go_upto_region 1 with fail
        generalize (w.alloc (.cells #[.int .i64 200, .string (bs rs), .int .i64 minor, .slice B m d] 31)).alloc (.cells #[.int .i64 0, .string ⟨#[]⟩, .int .i64 0, .slice none 0 0] 31) = w2 at *
        obtain ⟨a0, a1, a2, a3, -⟩ := row_facts4 hr2
        have hC := copyResponse_own 200 rs minor B m d l w2 (hl.step hb0) (by omega)
        unfold respV at hC
        go_wp2_with fail
        refine hC.mono ?_
        rintro x w2b ⟨Ac, nc, cc, rfl, hW8, hb2b⟩
        clear hC a0 a1 a2 a3
        replace hr2 := row_keep hr2 hb2b
        replace hz2 := row_keep hz2 hb2b
        replace hb0 := bnext hb0 hb2b hb0.size
        replace hW8 := hW8.mono (show w.heap.size + 2 ≤ w2.heap.size from hsz2)
        replace hsz2 : w.heap.size + 2 ≤ w2b.heap.size := Nat.le_trans hsz2 hb2b.size
        clear hb2b
        have hal8 := alloc_below w2b (.cells #[.int .i64 200, .string (bs rs), .int .i64 minor, .slice Ac nc cc] 31)
        have h82 := heap_alloc_new w2b (.cells #[.int .i64 200, .string (bs rs), .int .i64 minor, .slice Ac nc cc] 31)
        have hg8a : w2b.heap.size < (w2b.alloc (.cells #[.int .i64 200, .string (bs rs), .int .i64 minor, .slice Ac nc cc] 31)).heap.size := by simp
        go_upto_region 2 with fail
        replace hr2 := row_keep hr2 hal8
        replace hz2 := row_keep hz2 hal8
        replace hW8 := hW8.step hal8
        replace hb0 := bnext hb0 hal8 hb0.size
        clear hal8
        generalize w2b.alloc (.cells #[.int .i64 200, .string (bs rs), .int .i64 minor, .slice Ac nc cc] 31) = w2c at *
        generalize w2b.heap.size = g8 at *
        go_wp2_with fail
        refine (hG.out _ hb0).mono ?_
        rintro x w3 ⟨rfl, hb3⟩
        have hr3 := row_keep hr2 hb3
        have hz3 := row_keep hz2 hb3
        have h83 := row_keep h82 hb3
        replace hW8 := hW8.step hb3
        replace hb0 := bnext hb0 hb3 hb0.size
        have hg8b : g8 < w3.heap.size := Nat.lt_of_lt_of_le hg8a hb3.size
        clear hr2 hz2 h82 hg8a hb3 hG
        go_wp2_with fail
        refine (hPC.out _ hb0).mono ?_
        rintro x w4 ⟨A4, n4, c4, rfl, hP, hb4⟩
        have hr4 := row_keep hr3 hb4
        have hz4 := row_keep hz3 hb4
        have h84 := row_keep h83 hb4
        replace hW8 := hW8.step hb4
        replace hP := hP.mono (show g8 + 1 ≤ w3.heap.size by omega)
        replace hb0 := bnext hb0 hb4 hb0.size
        have hg8 : g8 < w4.heap.size := Nat.lt_of_lt_of_le hg8b hb4.size
        clear hr3 hz3 h83 hg8b hb4 hPC
        obtain ⟨a0, a1, a2, a3, -⟩ := row_facts4 hr4
        go_upto_region 5 with fail
        clear a0 a1 a2 a3 hP
        have ok : TrOK (w.heap.size + 1) [tB 2 56 (g8 + 1) b, tB 4 7 (g8 + 1) b] := tB_ok (by omega) (tB_ok (by omega) TrOK.nil)
        have HB : Hid (∀ W, Gb (w.heap.size + 1) w4 W → Below w.heap.size w W) := Lib.hid fun W hG => hb0.trans (hG.below (by omega) (by omega))
        refine DA.wp_region (n := 5) (V := fun iop uop => match iop with | 0 => uop = .agg #[.int .i64 200, .string (bs rs), .int .i64 minor, .slice Ac nc cc] | 1 => uop = .slice Y k e | 2 => ∃ (A : Option Addr) (n c : Nat), uop = .slice A n c | 3 => uop = undef | 4 => ∃ (A : Option Addr) (n c : Nat), uop = .slice A n c | _ => uop = undef) (S := SR w4 (w.heap.size + 1) #[.int .i64 0, .string ⟨#[]⟩, .int .i64 0, .slice none 0 0] (fun _ => #[.int .i64 200, .string (bs rs), .int .i64 minor, .slice Ac nc cc]) 31 0 3 54 186 [tB 2 56 (g8 + 1) b, tB 4 7 (g8 + 1) b]) (by kernel_rfl) rfl (SR.start rfl hz4) ?_
        refine' DA.Det.takeE (i := 0) (v := _) rfl (fun _ => Iff.rfl) (by kernel_rfl) (by kernel_rfl) (by kernel_rfl) (DA.YS.pure rfl rfl ?rprk2_0 ?sprk2_0) ?nprk2_0
        case rprk2_0 => intro a' L W hS; obtain ⟨k0, k1, k2, k3, -⟩ := row_facts4 ((hS.grow.block g8 hg8 (by omega)).trans h84); go_simp; first | rfl | skip
        case sprk2_0 => exact fun a' L W hL h => (SR.other ok (by intro t ht; simp only [List.mem_cons, List.not_mem_nil, or_false] at ht; rcases ht with rfl | rfl <;> simp) (by decide) (by simp) hL h (Below.refl _ _))
        try simp only [Act.put, List.setIfInBounds_toArray, List.set_cons_zero, List.set_cons_succ]
        refine' DA.Det.takeE (i := 1) (v := _) rfl (fun _ => Iff.rfl) (by kernel_rfl) (by kernel_rfl) (by kernel_rfl) (DA.YS.pure rfl rfl ?rprk2_1 ?sprk2_1) ?nprk2_1
        case rprk2_1 => intro a' L W hS; go_simp; first | rfl | skip
        case sprk2_1 => exact fun a' L W hL h => (SR.other ok (by intro t ht; simp only [List.mem_cons, List.not_mem_nil, or_false] at ht; rcases ht with rfl | rfl <;> simp) (by decide) (by simp) hL h (Below.refl _ _))
        try simp only [Act.put, List.setIfInBounds_toArray, List.set_cons_zero, List.set_cons_succ]
        refine' DA.Det.takeL (i := 2) rfl ⟨_, none, 0, 0, rfl⟩ (by kernel_rfl) (by kernel_rfl) (by kernel_rfl) (callE (f := _) (args := _) rfl ?rprk2_2 ?cprk2_2) ?nprk2_2
        case rprk2_2 => intro W; go_simp; constructor <;> rfl
        case cprk2_2 =>
          intro a' L W he hL hd hS
          have hW := HB.out W hS.grow
          refine (copyBytes_own Y k e b W (hb.step hW) (by omega)).mono ?_
          rintro e w9 ⟨A9, n9, c9, rfl, ho9, hb9⟩
          have hR9 : (tB 2 56 (g8 + 1) b).R w9 (.slice A9 n9 c9) := ⟨A9, n9, c9, rfl, (ho9).mono (Nat.le_trans (show g8 + 1 ≤ w4.heap.size from hg8) hS.grow.size)⟩
          exact ⟨_, rfl, ⟨A9, n9, c9, rfl⟩, SR.made (tB 2 56 (g8 + 1) b) ok (by intro t ht; simp only [List.mem_cons, List.not_mem_nil, or_false] at ht; rcases ht with rfl | rfl; exact .inl rfl; exact .inr (by simp)) (by simp) (by simp) (by simp) hL hS hb9 hR9⟩
        rintro v2 ⟨Ark2_2, nrk2_2, crk2_2, rfl⟩
        try simp only [Act.put, List.setIfInBounds_toArray, List.set_cons_zero, List.set_cons_succ]
        refine' DA.Det.takeE (i := 3) (v := undef) rfl (fun _ => Iff.rfl) (by kernel_rfl) (by kernel_rfl) (by kernel_rfl) (DA.YS.store (f := _) rfl rfl ?rprk2_3) ?nprk2_3
        case rprk2_3 =>
          intro a' L W he hL hd hS
          have hbx := hS.box0 (DA.getD_un hL)
          have hiq := hd ⟨0, .data⟩ (by simp) (by kernel_rfl)
          obtain ⟨z0, z1, z2, z3, y0, y1, y2, y3⟩ := row_facts4 hbx
          constructor
          · go_simp; rfl
          · exact SR.stored (by intro t ht; simp only [List.mem_cons, List.not_mem_nil, or_false] at ht; rcases ht with rfl | rfl <;> simp) (by decide) hL hiq hS (slot_val (he (.tmp 54) (by simp [Op.operands, Call.operands])) (by simp [undef, Act.eval])) Gb.set4 (heap_set4 hbx) ok.set4
        try simp only [Act.put, List.setIfInBounds_toArray, List.set_cons_zero, List.set_cons_succ]
        refine' DA.Det.takeL (i := 4) rfl ⟨_, none, 0, 0, rfl⟩ (by kernel_rfl) (by kernel_rfl) (by kernel_rfl) (pureE (v := _) rfl ?rprk2_4 ?cprk2_4) ?nprk2_4
        case rprk2_4 => intro W; go_simp; first | rfl | skip
        case cprk2_4 =>
          intro a' L W he hL hd hS
          have hR8 := hS.see (t := tB 2 56 (g8 + 1) b) (by simp) (hd ⟨2, .data⟩ (by simp) (by kernel_rfl)) (he (.tmp 56) (by simp [Op.operands, Call.operands])) (by simp [undef, Act.eval])
          obtain ⟨A8, n8, c8, e8, ho8⟩ := hR8
          have e8' : (Value.slice Ark2_2 nrk2_2 crk2_2) = .slice A8 n8 c8 := e8
          refine ⟨⟨_, _, _, rfl⟩, SR.made (tB 4 7 (g8 + 1) b) ok (by intro t ht; simp only [List.mem_cons, List.not_mem_nil, or_false] at ht; rcases ht with rfl | rfl; exact .inr (by simp); exact .inl rfl) (by simp) (by simp) (by simp) hL hS (Below.refl _ _) ⟨_, _, _, rfl, ?_⟩⟩
          rw [e8']; exact ho8
        rintro v4 ⟨Ark2_4, nrk2_4, crk2_4, rfl⟩
        try simp only [Act.put, List.setIfInBounds_toArray, List.set_cons_zero, List.set_cons_succ]
        refine DA.Det.done (by kernel_rfl) (fun W hS => ?_) _
        obtain ⟨u, -, hbx⟩ := hS.box1 rfl
        obtain ⟨v7, e7, A9, n9, c9, hv, hO⟩ := hS.row (tB 4 7 (g8 + 1) b) (by simp) rfl
        have e7' : (Value.slice Ark2_4 nrk2_4 crk2_4) = v7 := Option.some.inj e7
        subst hv
        rw [← e7'] at hO
        have hF9 := own_gb hW8 (by omega) hS.grow
        have hW := HB.out W hS.grow
        obtain ⟨c0, c1, c2, c3, -⟩ := row_facts4 hbx
        clear hS e7 e7' hbx HB hr4 hz4 h84 hW8
        go_wp2
        refine bodyPost_ret (v := .tuple #[.agg #[.int .i64 200, .string (bs rs), .int .i64 minor, .slice Ac nc cc], .slice Ark2_4 nrk2_4 crk2_4]) (by simp [results, Tryz.results18, go_sem, c0, c1, c2, c3]) rfl ⟨_, _, _, _, _, _, rfl, own_mono hF9 (by omega), own_mono hO (by omega), hW⟩
      · have hh0 : hh = false := by
          rcases has with h | h | h | h
          · exact absurd rfl h
          · have := hve2 h; cases this
          · exact absurd h he190
          · exact h
        subst hh0
        clear has hve2
        have he19 : (er == 190) = false := by rw [beq_eq_false_iff_ne]; exact he190
        go_enter Tryz.func18, Tryz.ntmps18
        go_upto_region 1 with fail
        generalize (w.alloc (.cells #[.int .i64 200, .string (bs rs), .int .i64 minor, .slice B m d] 31)).alloc (.cells #[.int .i64 0, .string ⟨#[]⟩, .int .i64 0, .slice none 0 0] 31) = w2 at *
        obtain ⟨a0, a1, a2, a3, -⟩ := row_facts4 hr2
        have hC := copyResponse_own 200 rs minor B m d l w2 (hl.step hb0) (by omega)
        unfold respV at hC
        go_wp2_with fail
        refine hC.mono ?_
        rintro x w2b ⟨Ac, nc, cc, rfl, hW8, hb2b⟩
        clear hC a0 a1 a2 a3
        replace hr2 := row_keep hr2 hb2b
        replace hz2 := row_keep hz2 hb2b
        replace hb0 := bnext hb0 hb2b hb0.size
        replace hW8 := hW8.mono (show w.heap.size + 2 ≤ w2.heap.size from hsz2)
        replace hsz2 : w.heap.size + 2 ≤ w2b.heap.size := Nat.le_trans hsz2 hb2b.size
        clear hb2b
        have hal8 := alloc_below w2b (.cells #[.int .i64 200, .string (bs rs), .int .i64 minor, .slice Ac nc cc] 31)
        have h82 := heap_alloc_new w2b (.cells #[.int .i64 200, .string (bs rs), .int .i64 minor, .slice Ac nc cc] 31)
        have hg8a : w2b.heap.size < (w2b.alloc (.cells #[.int .i64 200, .string (bs rs), .int .i64 minor, .slice Ac nc cc] 31)).heap.size := by simp
        go_upto_region 2 with fail
        replace hr2 := row_keep hr2 hal8
        replace hz2 := row_keep hz2 hal8
        replace hW8 := hW8.step hal8
        replace hb0 := bnext hb0 hal8 hb0.size
        clear hal8
        generalize w2b.alloc (.cells #[.int .i64 200, .string (bs rs), .int .i64 minor, .slice Ac nc cc] 31) = w2c at *
        generalize w2b.heap.size = g8 at *
        go_wp2_with fail
        refine (hG.out _ hb0).mono ?_
        rintro x w3 ⟨rfl, hb3⟩
        have hr3 := row_keep hr2 hb3
        have hz3 := row_keep hz2 hb3
        have h83 := row_keep h82 hb3
        replace hW8 := hW8.step hb3
        replace hb0 := bnext hb0 hb3 hb0.size
        have hg8b : g8 < w3.heap.size := Nat.lt_of_lt_of_le hg8a hb3.size
        clear hr2 hz2 h82 hg8a hb3 hG
        go_wp2_with fail
        refine (hPC.out _ hb0).mono ?_
        rintro x w4 ⟨A4, n4, c4, rfl, hP, hb4⟩
        have hr4 := row_keep hr3 hb4
        have hz4 := row_keep hz3 hb4
        have h84 := row_keep h83 hb4
        replace hW8 := hW8.step hb4
        replace hP := hP.mono (show g8 + 1 ≤ w3.heap.size by omega)
        replace hb0 := bnext hb0 hb4 hb0.size
        have hg8 : g8 < w4.heap.size := Nat.lt_of_lt_of_le hg8b hb4.size
        clear hr3 hz3 h83 hg8b hb4 hPC
        obtain ⟨a0, a1, a2, a3, -⟩ := row_facts4 hr4
        go_wp2_with fail
        refine (hHO.out _ hb0).mono ?_
        rintro x w4b ⟨rfl, hb4b⟩
        clear hHO a0 a1 a2 a3
        replace hr4 := row_keep hr4 hb4b
        replace hz4 := row_keep hz4 hb4b
        replace h84 := row_keep h84 hb4b
        replace hW8 := hW8.step hb4b
        replace hP := hP.step hb4b
        replace hb0 := bnext hb0 hb4b hb0.size
        replace hg8 : g8 < w4b.heap.size := Nat.lt_of_lt_of_le hg8 hb4b.size
        clear hb4b
        obtain ⟨a0, a1, a2, a3, -⟩ := row_facts4 hr4
        go_upto_region 5 with fail
        clear a0 a1 a2 a3 hP
        have ok : TrOK (w.heap.size + 1) [tB 2 56 (g8 + 1) b, tB 4 7 (g8 + 1) b] := tB_ok (by omega) (tB_ok (by omega) TrOK.nil)
        have HB : Hid (∀ W, Gb (w.heap.size + 1) w4b W → Below w.heap.size w W) := Lib.hid fun W hG => hb0.trans (hG.below (by omega) (by omega))
        refine DA.wp_region (n := 5) (V := fun iop uop => match iop with | 0 => uop = .agg #[.int .i64 200, .string (bs rs), .int .i64 minor, .slice Ac nc cc] | 1 => uop = .slice Y k e | 2 => ∃ (A : Option Addr) (n c : Nat), uop = .slice A n c | 3 => uop = undef | 4 => ∃ (A : Option Addr) (n c : Nat), uop = .slice A n c | _ => uop = undef) (S := SR w4b (w.heap.size + 1) #[.int .i64 0, .string ⟨#[]⟩, .int .i64 0, .slice none 0 0] (fun _ => #[.int .i64 200, .string (bs rs), .int .i64 minor, .slice Ac nc cc]) 31 0 3 54 186 [tB 2 56 (g8 + 1) b, tB 4 7 (g8 + 1) b]) (by kernel_rfl) rfl (SR.start rfl hz4) ?_
        refine' DA.Det.takeE (i := 0) (v := _) rfl (fun _ => Iff.rfl) (by kernel_rfl) (by kernel_rfl) (by kernel_rfl) (DA.YS.pure rfl rfl ?rprk3_0 ?sprk3_0) ?nprk3_0
        case rprk3_0 => intro a' L W hS; obtain ⟨k0, k1, k2, k3, -⟩ := row_facts4 ((hS.grow.block g8 hg8 (by omega)).trans h84); go_simp; first | rfl | skip
        case sprk3_0 => exact fun a' L W hL h => (SR.other ok (by intro t ht; simp only [List.mem_cons, List.not_mem_nil, or_false] at ht; rcases ht with rfl | rfl <;> simp) (by decide) (by simp) hL h (Below.refl _ _))
        try simp only [Act.put, List.setIfInBounds_toArray, List.set_cons_zero, List.set_cons_succ]
        refine' DA.Det.takeE (i := 1) (v := _) rfl (fun _ => Iff.rfl) (by kernel_rfl) (by kernel_rfl) (by kernel_rfl) (DA.YS.pure rfl rfl ?rprk3_1 ?sprk3_1) ?nprk3_1
        case rprk3_1 => intro a' L W hS; go_simp; first | rfl | skip
        case sprk3_1 => exact fun a' L W hL h => (SR.other ok (by intro t ht; simp only [List.mem_cons, List.not_mem_nil, or_false] at ht; rcases ht with rfl | rfl <;> simp) (by decide) (by simp) hL h (Below.refl _ _))
        try simp only [Act.put, List.setIfInBounds_toArray, List.set_cons_zero, List.set_cons_succ]
        refine' DA.Det.takeL (i := 2) rfl ⟨_, none, 0, 0, rfl⟩ (by kernel_rfl) (by kernel_rfl) (by kernel_rfl) (callE (f := _) (args := _) rfl ?rprk3_2 ?cprk3_2) ?nprk3_2
        case rprk3_2 => intro W; go_simp; constructor <;> rfl
        case cprk3_2 =>
          intro a' L W he hL hd hS
          have hW := HB.out W hS.grow
          refine (copyBytes_own Y k e b W (hb.step hW) (by omega)).mono ?_
          rintro e w9 ⟨A9, n9, c9, rfl, ho9, hb9⟩
          have hR9 : (tB 2 56 (g8 + 1) b).R w9 (.slice A9 n9 c9) := ⟨A9, n9, c9, rfl, (ho9).mono (Nat.le_trans (show g8 + 1 ≤ w4b.heap.size from hg8) hS.grow.size)⟩
          exact ⟨_, rfl, ⟨A9, n9, c9, rfl⟩, SR.made (tB 2 56 (g8 + 1) b) ok (by intro t ht; simp only [List.mem_cons, List.not_mem_nil, or_false] at ht; rcases ht with rfl | rfl; exact .inl rfl; exact .inr (by simp)) (by simp) (by simp) (by simp) hL hS hb9 hR9⟩
        rintro v2 ⟨Ark3_2, nrk3_2, crk3_2, rfl⟩
        try simp only [Act.put, List.setIfInBounds_toArray, List.set_cons_zero, List.set_cons_succ]
        refine' DA.Det.takeE (i := 3) (v := undef) rfl (fun _ => Iff.rfl) (by kernel_rfl) (by kernel_rfl) (by kernel_rfl) (DA.YS.store (f := _) rfl rfl ?rprk3_3) ?nprk3_3
        case rprk3_3 =>
          intro a' L W he hL hd hS
          have hbx := hS.box0 (DA.getD_un hL)
          have hiq := hd ⟨0, .data⟩ (by simp) (by kernel_rfl)
          obtain ⟨z0, z1, z2, z3, y0, y1, y2, y3⟩ := row_facts4 hbx
          constructor
          · go_simp; rfl
          · exact SR.stored (by intro t ht; simp only [List.mem_cons, List.not_mem_nil, or_false] at ht; rcases ht with rfl | rfl <;> simp) (by decide) hL hiq hS (slot_val (he (.tmp 54) (by simp [Op.operands, Call.operands])) (by simp [undef, Act.eval])) Gb.set4 (heap_set4 hbx) ok.set4
        try simp only [Act.put, List.setIfInBounds_toArray, List.set_cons_zero, List.set_cons_succ]
        refine' DA.Det.takeL (i := 4) rfl ⟨_, none, 0, 0, rfl⟩ (by kernel_rfl) (by kernel_rfl) (by kernel_rfl) (pureE (v := _) rfl ?rprk3_4 ?cprk3_4) ?nprk3_4
        case rprk3_4 => intro W; go_simp; first | rfl | skip
        case cprk3_4 =>
          intro a' L W he hL hd hS
          have hR8 := hS.see (t := tB 2 56 (g8 + 1) b) (by simp) (hd ⟨2, .data⟩ (by simp) (by kernel_rfl)) (he (.tmp 56) (by simp [Op.operands, Call.operands])) (by simp [undef, Act.eval])
          obtain ⟨A8, n8, c8, e8, ho8⟩ := hR8
          have e8' : (Value.slice Ark3_2 nrk3_2 crk3_2) = .slice A8 n8 c8 := e8
          refine ⟨⟨_, _, _, rfl⟩, SR.made (tB 4 7 (g8 + 1) b) ok (by intro t ht; simp only [List.mem_cons, List.not_mem_nil, or_false] at ht; rcases ht with rfl | rfl; exact .inr (by simp); exact .inl rfl) (by simp) (by simp) (by simp) hL hS (Below.refl _ _) ⟨_, _, _, rfl, ?_⟩⟩
          rw [e8']; exact ho8
        rintro v4 ⟨Ark3_4, nrk3_4, crk3_4, rfl⟩
        try simp only [Act.put, List.setIfInBounds_toArray, List.set_cons_zero, List.set_cons_succ]
        refine DA.Det.done (by kernel_rfl) (fun W hS => ?_) _
        obtain ⟨u, -, hbx⟩ := hS.box1 rfl
        obtain ⟨v7, e7, A9, n9, c9, hv, hO⟩ := hS.row (tB 4 7 (g8 + 1) b) (by simp) rfl
        have e7' : (Value.slice Ark3_4 nrk3_4 crk3_4) = v7 := Option.some.inj e7
        subst hv
        rw [← e7'] at hO
        have hF9 := own_gb hW8 (by omega) hS.grow
        have hW := HB.out W hS.grow
        obtain ⟨c0, c1, c2, c3, -⟩ := row_facts4 hbx
        clear hS e7 e7' hbx HB hr4 hz4 h84 hW8
        go_wp2
        refine bodyPost_ret (v := .tuple #[.agg #[.int .i64 200, .string (bs rs), .int .i64 minor, .slice Ac nc cc], .slice Ark3_4 nrk3_4 crk3_4]) (by simp [results, Tryz.results18, go_sem, c0, c1, c2, c3]) rfl ⟨_, _, _, _, _, _, rfl, own_mono hF9 (by omega), own_mono hO (by omega), hW⟩
  · have hst1 : (st != 200) = true := by rw [bne_iff_ne]; exact hst
    clear has hve2 hHO
    go_enter Tryz.func18, Tryz.ntmps18
    go_upto_region 1 with fail
    generalize (w.alloc (.cells #[.int .i64 st, .string (bs rs), .int .i64 minor, .slice B m d] 31)).alloc (.cells #[.int .i64 0, .string ⟨#[]⟩, .int .i64 0, .slice none 0 0] 31) = w2 at *
    obtain ⟨a0, a1, a2, a3, -⟩ := row_facts4 hr2
    have hC := copyResponse_own st rs minor B m d l w2 (hl.step hb0) (by omega)
    unfold respV at hC
    go_wp2_with fail
    refine hC.mono ?_
    rintro x w2b ⟨Ac, nc, cc, rfl, hW8, hb2b⟩
    clear hC a0 a1 a2 a3
    replace hr2 := row_keep hr2 hb2b
    replace hz2 := row_keep hz2 hb2b
    replace hb0 := bnext hb0 hb2b hb0.size
    replace hW8 := hW8.mono (show w.heap.size + 2 ≤ w2.heap.size from hsz2)
    replace hsz2 : w.heap.size + 2 ≤ w2b.heap.size := Nat.le_trans hsz2 hb2b.size
    clear hb2b
    have hal8 := alloc_below w2b (.cells #[.int .i64 st, .string (bs rs), .int .i64 minor, .slice Ac nc cc] 31)
    have h82 := heap_alloc_new w2b (.cells #[.int .i64 st, .string (bs rs), .int .i64 minor, .slice Ac nc cc] 31)
    have hg8a : w2b.heap.size < (w2b.alloc (.cells #[.int .i64 st, .string (bs rs), .int .i64 minor, .slice Ac nc cc] 31)).heap.size := by simp
    go_upto_region 2 with fail
    replace hr2 := row_keep hr2 hal8
    replace hz2 := row_keep hz2 hal8
    replace hW8 := hW8.step hal8
    replace hb0 := bnext hb0 hal8 hb0.size
    clear hal8
    generalize w2b.alloc (.cells #[.int .i64 st, .string (bs rs), .int .i64 minor, .slice Ac nc cc] 31) = w2c at *
    generalize w2b.heap.size = g8 at *
    go_wp2_with fail
    refine (hG.out _ hb0).mono ?_
    rintro x w3 ⟨rfl, hb3⟩
    have hr3 := row_keep hr2 hb3
    have hz3 := row_keep hz2 hb3
    have h83 := row_keep h82 hb3
    replace hW8 := hW8.step hb3
    replace hb0 := bnext hb0 hb3 hb0.size
    have hg8b : g8 < w3.heap.size := Nat.lt_of_lt_of_le hg8a hb3.size
    clear hr2 hz2 h82 hg8a hb3 hG
    go_wp2_with fail
    refine (hPC.out _ hb0).mono ?_
    rintro x w4 ⟨A4, n4, c4, rfl, hP, hb4⟩
    have hr4 := row_keep hr3 hb4
    have hz4 := row_keep hz3 hb4
    have h84 := row_keep h83 hb4
    replace hW8 := hW8.step hb4
    replace hP := hP.mono (show g8 + 1 ≤ w3.heap.size by omega)
    replace hb0 := bnext hb0 hb4 hb0.size
    have hg8 : g8 < w4.heap.size := Nat.lt_of_lt_of_le hg8b hb4.size
    clear hr3 hz3 h83 hg8b hb4 hPC
    obtain ⟨a0, a1, a2, a3, -⟩ := row_facts4 hr4
    go_upto_region 5 with fail
    clear a0 a1 a2 a3 hP
    have ok : TrOK (w.heap.size + 1) [tB 2 56 (g8 + 1) b, tB 4 7 (g8 + 1) b] := tB_ok (by omega) (tB_ok (by omega) TrOK.nil)
    have HB : Hid (∀ W, Gb (w.heap.size + 1) w4 W → Below w.heap.size w W) := Lib.hid fun W hG => hb0.trans (hG.below (by omega) (by omega))
    refine DA.wp_region (n := 5) (V := fun iop uop => match iop with | 0 => uop = .agg #[.int .i64 st, .string (bs rs), .int .i64 minor, .slice Ac nc cc] | 1 => uop = .slice Y k e | 2 => ∃ (A : Option Addr) (n c : Nat), uop = .slice A n c | 3 => uop = undef | 4 => ∃ (A : Option Addr) (n c : Nat), uop = .slice A n c | _ => uop = undef) (S := SR w4 (w.heap.size + 1) #[.int .i64 0, .string ⟨#[]⟩, .int .i64 0, .slice none 0 0] (fun _ => #[.int .i64 st, .string (bs rs), .int .i64 minor, .slice Ac nc cc]) 31 0 3 54 186 [tB 2 56 (g8 + 1) b, tB 4 7 (g8 + 1) b]) (by kernel_rfl) rfl (SR.start rfl hz4) ?_
    refine' DA.Det.takeE (i := 0) (v := _) rfl (fun _ => Iff.rfl) (by kernel_rfl) (by kernel_rfl) (by kernel_rfl) (DA.YS.pure rfl rfl ?rprk4_0 ?sprk4_0) ?nprk4_0
    case rprk4_0 => intro a' L W hS; obtain ⟨k0, k1, k2, k3, -⟩ := row_facts4 ((hS.grow.block g8 hg8 (by omega)).trans h84); go_simp; first | rfl | skip
    case sprk4_0 => exact fun a' L W hL h => (SR.other ok (by intro t ht; simp only [List.mem_cons, List.not_mem_nil, or_false] at ht; rcases ht with rfl | rfl <;> simp) (by decide) (by simp) hL h (Below.refl _ _))
    try simp only [Act.put, List.setIfInBounds_toArray, List.set_cons_zero, List.set_cons_succ]
    refine' DA.Det.takeE (i := 1) (v := _) rfl (fun _ => Iff.rfl) (by kernel_rfl) (by kernel_rfl) (by kernel_rfl) (DA.YS.pure rfl rfl ?rprk4_1 ?sprk4_1) ?nprk4_1
    case rprk4_1 => intro a' L W hS; go_simp; first | rfl | skip
    case sprk4_1 => exact fun a' L W hL h => (SR.other ok (by intro t ht; simp only [List.mem_cons, List.not_mem_nil, or_false] at ht; rcases ht with rfl | rfl <;> simp) (by decide) (by simp) hL h (Below.refl _ _))
    try simp only [Act.put, List.setIfInBounds_toArray, List.set_cons_zero, List.set_cons_succ]
    refine' DA.Det.takeL (i := 2) rfl ⟨_, none, 0, 0, rfl⟩ (by kernel_rfl) (by kernel_rfl) (by kernel_rfl) (callE (f := _) (args := _) rfl ?rprk4_2 ?cprk4_2) ?nprk4_2
    case rprk4_2 => intro W; go_simp; constructor <;> rfl
    case cprk4_2 =>
      intro a' L W he hL hd hS
      have hW := HB.out W hS.grow
      refine (copyBytes_own Y k e b W (hb.step hW) (by omega)).mono ?_
      rintro e w9 ⟨A9, n9, c9, rfl, ho9, hb9⟩
      have hR9 : (tB 2 56 (g8 + 1) b).R w9 (.slice A9 n9 c9) := ⟨A9, n9, c9, rfl, (ho9).mono (Nat.le_trans (show g8 + 1 ≤ w4.heap.size from hg8) hS.grow.size)⟩
      exact ⟨_, rfl, ⟨A9, n9, c9, rfl⟩, SR.made (tB 2 56 (g8 + 1) b) ok (by intro t ht; simp only [List.mem_cons, List.not_mem_nil, or_false] at ht; rcases ht with rfl | rfl; exact .inl rfl; exact .inr (by simp)) (by simp) (by simp) (by simp) hL hS hb9 hR9⟩
    rintro v2 ⟨Ark4_2, nrk4_2, crk4_2, rfl⟩
    try simp only [Act.put, List.setIfInBounds_toArray, List.set_cons_zero, List.set_cons_succ]
    refine' DA.Det.takeE (i := 3) (v := undef) rfl (fun _ => Iff.rfl) (by kernel_rfl) (by kernel_rfl) (by kernel_rfl) (DA.YS.store (f := _) rfl rfl ?rprk4_3) ?nprk4_3
    case rprk4_3 =>
      intro a' L W he hL hd hS
      have hbx := hS.box0 (DA.getD_un hL)
      have hiq := hd ⟨0, .data⟩ (by simp) (by kernel_rfl)
      obtain ⟨z0, z1, z2, z3, y0, y1, y2, y3⟩ := row_facts4 hbx
      constructor
      · go_simp; rfl
      · exact SR.stored (by intro t ht; simp only [List.mem_cons, List.not_mem_nil, or_false] at ht; rcases ht with rfl | rfl <;> simp) (by decide) hL hiq hS (slot_val (he (.tmp 54) (by simp [Op.operands, Call.operands])) (by simp [undef, Act.eval])) Gb.set4 (heap_set4 hbx) ok.set4
    try simp only [Act.put, List.setIfInBounds_toArray, List.set_cons_zero, List.set_cons_succ]
    refine' DA.Det.takeL (i := 4) rfl ⟨_, none, 0, 0, rfl⟩ (by kernel_rfl) (by kernel_rfl) (by kernel_rfl) (pureE (v := _) rfl ?rprk4_4 ?cprk4_4) ?nprk4_4
    case rprk4_4 => intro W; go_simp; first | rfl | skip
    case cprk4_4 =>
      intro a' L W he hL hd hS
      have hR8 := hS.see (t := tB 2 56 (g8 + 1) b) (by simp) (hd ⟨2, .data⟩ (by simp) (by kernel_rfl)) (he (.tmp 56) (by simp [Op.operands, Call.operands])) (by simp [undef, Act.eval])
      obtain ⟨A8, n8, c8, e8, ho8⟩ := hR8
      have e8' : (Value.slice Ark4_2 nrk4_2 crk4_2) = .slice A8 n8 c8 := e8
      refine ⟨⟨_, _, _, rfl⟩, SR.made (tB 4 7 (g8 + 1) b) ok (by intro t ht; simp only [List.mem_cons, List.not_mem_nil, or_false] at ht; rcases ht with rfl | rfl; exact .inr (by simp); exact .inl rfl) (by simp) (by simp) (by simp) hL hS (Below.refl _ _) ⟨_, _, _, rfl, ?_⟩⟩
      rw [e8']; exact ho8
    rintro v4 ⟨Ark4_4, nrk4_4, crk4_4, rfl⟩
    try simp only [Act.put, List.setIfInBounds_toArray, List.set_cons_zero, List.set_cons_succ]
    refine DA.Det.done (by kernel_rfl) (fun W hS => ?_) _
    obtain ⟨u, -, hbx⟩ := hS.box1 rfl
    obtain ⟨v7, e7, A9, n9, c9, hv, hO⟩ := hS.row (tB 4 7 (g8 + 1) b) (by simp) rfl
    have e7' : (Value.slice Ark4_4 nrk4_4 crk4_4) = v7 := Option.some.inj e7
    subst hv
    rw [← e7'] at hO
    have hF9 := own_gb hW8 (by omega) hS.grow
    have hW := HB.out W hS.grow
    obtain ⟨c0, c1, c2, c3, -⟩ := row_facts4 hbx
    clear hS e7 e7' hbx HB hr4 hz4 h84 hW8
    go_wp2
    refine bodyPost_ret (v := .tuple #[.agg #[.int .i64 st, .string (bs rs), .int .i64 minor, .slice Ac nc cc], .slice Ark4_4 nrk4_4 crk4_4]) (by simp [results, Tryz.results18, go_sem, c0, c1, c2, c3]) rfl ⟨_, _, _, _, _, _, rfl, own_mono hF9 (by omega), own_mono hO (by omega), hW⟩
end Go.Proofs.YtcaekfebnhedpaaGreatDoor
