/- Joined texts: Apply where the response is handed on as it is. The conditions stand in each line. -/
import Derived.Test.YtcaekfebnhedpaaGreatDoorM10
import Derived.Test.YtcaekfebnhedpaaGreatDoorM13
import Derived.Test.YtcaekfebnhedpaaGreatDoorM19
import Derived.Test.YtcaekfebnhedpaaGreatDoorM27
import Derived.Test.YtcaekfebnhedpaaGreatDoorM29
import Derived.Test.YtcaekfebnhedpaaGreatDoorM31
set_option linter.unusedVariables false
set_option linter.unusedSimpArgs false
namespace Go.Proofs.YtcaekfebnhedpaaGreatDoor
open Go.RowKit

set_option maxRecDepth 100000
/-- What Apply answers. -/
def ApOut (w : World) (minor : Int) (r : Rg.Ans) (x : Ending) (w' : World) : Prop :=
  ∃ A n c Y k e, x = .returned (.tuple #[respV r.st r.rs minor A n c, .slice Y k e]) ∧ OwnF w' w.heap.size (.slice A n c) r.l ∧ OwnB w' w.heap.size (.slice Y k e) r.b ∧ Below w.heap.size w w'
set_option maxHeartbeats 8000000 in
theorem apply_keep (A : Option Addr) (n c : Nat) (q : List Fld) (st : Int) (rs : List UInt8) (minor : Int) (B : Option Addr) (m d : Nat) (l : List Fld) (Y : Option Addr) (k e : Nat) (b : List UInt8) (w : World) (ht : Tab w) (hM : MaxL w)
    (hq : RdF w A n q) (hn : n ≤ 1048576) (hqs : FlenS q) (hqj : (Frs.getL q Rg.rngR).length ≤ 1073741824) (hl : RdF w B m l) (hm : m ≤ 1048576) (hls : FlenS l) (hb : RdB w Y k b) (hk : k ≤ 4194304) (hke : k ≤ e) (hee : e ≤ maxLen) (has : Rg.asIs q st l b) :
    Calls Tryz.prog 17 #[.slice A n c, respV st rs minor B m d, .slice Y k e] w fun x w' => ApOut w minor (Rg.keepA st rs l b) x w' := by
  unfold respV
  have hee2 : (e : Int) ≤ 9223372036854775807 := by unfold maxLen at hee; omega
  have hb1 := alloc_below w (.cells #[.int .i64 st, .string (bs rs), .int .i64 minor, .slice B m d] 31)
  have hr1 := heap_alloc_new w (.cells #[.int .i64 st, .string (bs rs), .int .i64 minor, .slice B m d] 31)
  have hb2 := alloc_below (w.alloc (.cells #[.int .i64 st, .string (bs rs), .int .i64 minor, .slice B m d] 31)) (.cells #[.int .i64 0, .string ⟨#[]⟩, .int .i64 0, .slice none 0 0] 31)
  have hz2 := heap_alloc_new (w.alloc (.cells #[.int .i64 st, .string (bs rs), .int .i64 minor, .slice B m d] 31)) (.cells #[.int .i64 0, .string ⟨#[]⟩, .int .i64 0, .slice none 0 0] 31)
  rw [show (w.alloc (.cells #[.int .i64 st, .string (bs rs), .int .i64 minor, .slice B m d] 31)).heap.size = w.heap.size + 1 by simp] at hz2
  have hr2 := row_keep hr1 hb2
  have hb0 := bnext hb1 hb2 hb1.size
  have hsz2 : w.heap.size + 2 ≤ ((w.alloc (.cells #[.int .i64 st, .string (bs rs), .int .i64 minor, .slice B m d] 31)).alloc (.cells #[.int .i64 0, .string ⟨#[]⟩, .int .i64 0, .slice none 0 0] 31)).heap.size := by simp
  have hG : Hid (∀ W, Below w.heap.size w W → Calls Tryz.prog 24 #[.slice A n c, .string (bs Rg.rngP)] W fun x w' => x = .returned (.tuple #[.string (bs (Frs.getL q Rg.rngR)), .bool (!(valuesL q Rg.rngR).isEmpty)]) ∧ Below W.heap.size W w') := Lib.hid fun W hW => by
    have h := get_any A n c q Rg.rngP W (hq.step hW) hn hqs (by decide)
    change Calls Tryz.prog 24 _ _ fun x w' => x = .returned (.tuple #[.string (bs (Frs.getL q Rg.rngP)), .bool (!(valuesL q Rg.rngP).isEmpty)]) ∧ _ at h
    rw [show Frs.getL q Rg.rngP = Frs.getL q Rg.rngR from Frs.get_name rfl, show valuesL q Rg.rngP = valuesL q Rg.rngR from valuesL_nameG rfl] at h
    exact h
  clear hr1 hb1 hb2
  have hPC : Hid (∀ W, Below w.heap.size w W → Calls Tryz.prog 11 #[.string (bs (Frs.getL q Rg.rngR)), .int .i64 (k : Int)] W fun x w' => RgOut W (Frs.getL q Rg.rngR) (k : Int) x w') := Lib.hid fun W hW => parse19_p (Frs.getL q Rg.rngR) (k : Int) W (maxl_b hM hW) hqj (by omega) (by omega)
  unfold RgOut at hPC
  have hHO : Hid (∀ W, Below w.heap.size w W → Calls Tryz.prog 35 #[.slice A n c, .agg #[.int .i64 st, .string (bs rs), .int .i64 minor, .slice B m d]] W fun x w' => x = .returned (.bool (Rg.holdsL q l)) ∧ Below W.heap.size W w') := Lib.hid fun W hW => holds_p A n c q st rs minor B m d l W (hq.step hW) hn hqs (hl.step hW) hm hls
  have hbl := hb.1
  unfold Rg.asIs at has
  rw [hbl] at has
  generalize Rg.holdsL q l = hh at *
  generalize Rg.parseL (Frs.getL q Rg.rngR) (k : Int) = PL at *
  obtain ⟨sp, er⟩ := PL
  generalize Frs.getL q Rg.rngR = V at *
  generalize hve : (!(valuesL q Rg.rngR).isEmpty) = ve at *
  dsimp only at *
  have hve2 : valuesL q Rg.rngR = [] → ve = false := fun h => by rw [← hve, h]; rfl
  clear hve
  by_cases hst : st = 200
  · subst hst
    cases ve with
    | false =>
      clear has hve2 hHO
      go_enter Tryz.func17, Tryz.ntmps17
      go_upto_region 1 with fail
      generalize (w.alloc (.cells #[.int .i64 200, .string (bs rs), .int .i64 minor, .slice B m d] 31)).alloc (.cells #[.int .i64 0, .string ⟨#[]⟩, .int .i64 0, .slice none 0 0] 31) = w2 at *
      go_wp2_with fail
      refine (hG.out _ hb0).mono ?_
      rintro x w3 ⟨rfl, hb3⟩
      have hr3 := row_keep hr2 hb3
      have hz3 := row_keep hz2 hb3
      replace hb0 := bnext hb0 hb3 hb0.size
      have hsz3 : w.heap.size + 2 ≤ w3.heap.size := Nat.le_trans hsz2 hb3.size
      clear hr2 hz2 hsz2 hb3 hG
      go_wp2_with fail
      refine (hPC.out _ hb0).mono ?_
      rintro x w4 ⟨A4, n4, c4, rfl, hP, hb4⟩
      have hr4 := row_keep hr3 hb4
      have hz4 := row_keep hz3 hb4
      replace hP := hP.mono (show w.heap.size + 2 ≤ w3.heap.size from hsz3)
      replace hb0 := bnext hb0 hb4 hb0.size
      have hsz4 : w.heap.size + 2 ≤ w4.heap.size := Nat.le_trans hsz3 hb4.size
      clear hr3 hz3 hsz3 hb4 hPC
      obtain ⟨a0, a1, a2, a3, -, -, -, f3⟩ := row_facts4 hr4
      have hC := cloneF_own B m d l w4 (hl.step hb0) (by omega)
      go_wp2_with fail
      refine hC.mono ?_
      rintro x w6 ⟨A6, n6, c6, rfl, hF, hb6⟩
      clear hC a0 a1 a2 a3 f3
      have hr6 := row_keep hr4 hb6
      have hz6 := row_keep hz4 hb6
      replace hb0 := bnext hb0 hb6 hb0.size
      have hsz6 : w.heap.size + 2 ≤ w6.heap.size := Nat.le_trans hsz4 hb6.size
      replace hF := hF.mono hsz4
      clear hr4 hz4 hsz4 hb6 hP
      obtain ⟨a0, a1, a2, a3, -, -, -, f3⟩ := row_facts4 hr6
      go_upto_region 5 with fail
      clear a0 a1 a2 a3 f3
      have hr7 := DA.heap_set hr6 3 (.slice A6 n6 c6)
      have hz7 := (DA.heap_rest (w := w6) (b := w.heap.size) (k := w.heap.size + 1) (by omega) 3 (.slice A6 n6 c6)).trans hz6
      have hb7 : Below w.heap.size w (w6.setCell ⟨w.heap.size, 3, none⟩ (.slice A6 n6 c6)) := hb0.setCell (Nat.le_refl _) _
      have hF7 : OwnF (w6.setCell ⟨w.heap.size, 3, none⟩ (.slice A6 n6 c6)) (w.heap.size + 2) (.slice A6 n6 c6) l := own_setG hF (by omega) _
      have hsz7 : w.heap.size + 2 ≤ (w6.setCell ⟨w.heap.size, 3, none⟩ (.slice A6 n6 c6)).heap.size := by rw [DA.size_set]; exact hsz6
      clear hr6 hz6 hb0 hF hsz6
      generalize w6.setCell ⟨w.heap.size, 3, none⟩ (.slice A6 n6 c6) = w7 at *
      simp only [List.setIfInBounds_toArray, List.set_cons_zero, List.set_cons_succ] at hr7
      have ok : TrOK (w.heap.size + 1) [tB 2 50 (w.heap.size + 2) b, tB 4 7 (w.heap.size + 2) b] := tB_ok (by omega) (tB_ok (by omega) TrOK.nil)
      have hlt0 : w.heap.size < w7.heap.size := by omega
      have HB : Hid (∀ W, Gb (w.heap.size + 1) w7 W → Below w.heap.size w W) := Lib.hid fun W hG => hb7.trans (hG.below (by omega) (by omega))
      refine DA.wp_region (n := 5) (V := fun iop uop => match iop with | 0 => uop = .agg #[.int .i64 200, .string (bs rs), .int .i64 minor, .slice A6 n6 c6] | 1 => uop = .slice Y k e | 2 => ∃ (A : Option Addr) (n c : Nat), uop = .slice A n c | 3 => uop = undef | 4 => ∃ (A : Option Addr) (n c : Nat), uop = .slice A n c | _ => uop = undef) (S := SR w7 (w.heap.size + 1) #[.int .i64 0, .string ⟨#[]⟩, .int .i64 0, .slice none 0 0] (fun _ => #[.int .i64 200, .string (bs rs), .int .i64 minor, .slice A6 n6 c6]) 31 0 3 48 112 [tB 2 50 (w.heap.size + 2) b, tB 4 7 (w.heap.size + 2) b]) (by kernel_rfl) rfl (SR.start rfl hz7) ?_
      refine' DA.Det.takeE (i := 0) (v := _) rfl (fun _ => Iff.rfl) (by kernel_rfl) (by kernel_rfl) (by kernel_rfl) (DA.YS.pure rfl rfl ?rpk1_0 ?spk1_0) ?npk1_0
      case rpk1_0 => intro a' L W hS; obtain ⟨k0, k1, k2, k3, -⟩ := row_facts4 ((hS.grow.block w.heap.size hlt0 (by omega)).trans hr7); go_simp; first | rfl | skip
      case spk1_0 => exact fun a' L W hL h => (SR.other ok (by intro t ht; simp only [List.mem_cons, List.not_mem_nil, or_false] at ht; rcases ht with rfl | rfl <;> simp) (by decide) (by simp) hL h (Below.refl _ _))
      try simp only [Act.put, List.setIfInBounds_toArray, List.set_cons_zero, List.set_cons_succ]
      refine' DA.Det.takeE (i := 1) (v := _) rfl (fun _ => Iff.rfl) (by kernel_rfl) (by kernel_rfl) (by kernel_rfl) (DA.YS.pure rfl rfl ?rpk1_1 ?spk1_1) ?npk1_1
      case rpk1_1 => intro a' L W hS; go_simp; first | rfl | skip
      case spk1_1 => exact fun a' L W hL h => (SR.other ok (by intro t ht; simp only [List.mem_cons, List.not_mem_nil, or_false] at ht; rcases ht with rfl | rfl <;> simp) (by decide) (by simp) hL h (Below.refl _ _))
      try simp only [Act.put, List.setIfInBounds_toArray, List.set_cons_zero, List.set_cons_succ]
      refine' DA.Det.takeL (i := 2) rfl ⟨_, none, 0, 0, rfl⟩ (by kernel_rfl) (by kernel_rfl) (by kernel_rfl) (callE (f := _) (args := _) rfl ?rpk1_2 ?cpk1_2) ?npk1_2
      case rpk1_2 => intro W; go_simp; constructor <;> rfl
      case cpk1_2 =>
        intro a' L W he hL hd hS
        have hW := HB.out W hS.grow
        refine (cloneB_own Y k e b W (hb.step hW) (by omega)).mono ?_
        rintro e w9 ⟨A9, n9, c9, rfl, ho9, hb9⟩
        have hR9 : (tB 2 50 (w.heap.size + 2) b).R w9 (.slice A9 n9 c9) := ⟨A9, n9, c9, rfl, (ho9).mono (Nat.le_trans hsz7 hS.grow.size)⟩
        exact ⟨_, rfl, ⟨A9, n9, c9, rfl⟩, SR.made (tB 2 50 (w.heap.size + 2) b) ok (by intro t ht; simp only [List.mem_cons, List.not_mem_nil, or_false] at ht; rcases ht with rfl | rfl; exact .inl rfl; exact .inr (by simp)) (by simp) (by simp) (by simp) hL hS hb9 hR9⟩
      rintro v2 ⟨Ak1_2, nk1_2, ck1_2, rfl⟩
      try simp only [Act.put, List.setIfInBounds_toArray, List.set_cons_zero, List.set_cons_succ]
      refine' DA.Det.takeE (i := 3) (v := undef) rfl (fun _ => Iff.rfl) (by kernel_rfl) (by kernel_rfl) (by kernel_rfl) (DA.YS.store (f := _) rfl rfl ?rpk1_3) ?npk1_3
      case rpk1_3 =>
        intro a' L W he hL hd hS
        have hbx := hS.box0 (DA.getD_un hL)
        have hiq := hd ⟨0, .data⟩ (by simp) (by kernel_rfl)
        obtain ⟨z0, z1, z2, z3, y0, y1, y2, y3⟩ := row_facts4 hbx
        constructor
        · go_simp; rfl
        · exact SR.stored (by intro t ht; simp only [List.mem_cons, List.not_mem_nil, or_false] at ht; rcases ht with rfl | rfl <;> simp) (by decide) hL hiq hS (slot_val (he (.tmp 48) (by simp [Op.operands, Call.operands])) (by simp [undef, Act.eval])) Gb.set4 (heap_set4 hbx) ok.set4
      try simp only [Act.put, List.setIfInBounds_toArray, List.set_cons_zero, List.set_cons_succ]
      refine' DA.Det.takeL (i := 4) rfl ⟨_, none, 0, 0, rfl⟩ (by kernel_rfl) (by kernel_rfl) (by kernel_rfl) (pureE (v := _) rfl ?rpk1_4 ?cpk1_4) ?npk1_4
      case rpk1_4 => intro W; go_simp; first | rfl | skip
      case cpk1_4 =>
        intro a' L W he hL hd hS
        have hR8 := hS.see (t := tB 2 50 (w.heap.size + 2) b) (by simp) (hd ⟨2, .data⟩ (by simp) (by kernel_rfl)) (he (.tmp 50) (by simp [Op.operands, Call.operands])) (by simp [undef, Act.eval])
        obtain ⟨A8, n8, c8, e8, ho8⟩ := hR8
        have e8' : (Value.slice Ak1_2 nk1_2 ck1_2) = .slice A8 n8 c8 := e8
        refine ⟨⟨_, _, _, rfl⟩, SR.made (tB 4 7 (w.heap.size + 2) b) ok (by intro t ht; simp only [List.mem_cons, List.not_mem_nil, or_false] at ht; rcases ht with rfl | rfl; exact .inr (by simp); exact .inl rfl) (by simp) (by simp) (by simp) hL hS (Below.refl _ _) ⟨_, _, _, rfl, ?_⟩⟩
        rw [e8']; exact ho8
      rintro v4 ⟨Ak1_4, nk1_4, ck1_4, rfl⟩
      try simp only [Act.put, List.setIfInBounds_toArray, List.set_cons_zero, List.set_cons_succ]
      refine DA.Det.done (by kernel_rfl) (fun W hS => ?_) _
      obtain ⟨u, -, hbx⟩ := hS.box1 rfl
      have hr := hS.row (tB 4 7 (w.heap.size + 2) b) (by simp) rfl
      obtain ⟨v7, e7, A9, n9, c9, hv, hO⟩ := hr
      have e7' : (Value.slice Ak1_4 nk1_4 ck1_4) = v7 := Option.some.inj e7
      subst hv
      rw [← e7'] at hO
      have hF9 : OwnF W (w.heap.size + 2) (.slice A6 n6 c6) l := own_gb hF7 (by omega) hS.grow
      have hW := HB.out W hS.grow
      obtain ⟨c0, c1, c2, c3, -⟩ := row_facts4 hbx
      clear hS e7 e7' hbx HB hr7 hF7 hz7 hb7
      go_wp2
      refine bodyPost_ret (v := .tuple #[.agg #[.int .i64 200, .string (bs rs), .int .i64 minor, .slice A6 n6 c6], .slice Ak1_4 nk1_4 ck1_4]) (by simp [results, Tryz.results17, go_sem, c0, c1, c2, c3]) rfl ⟨_, _, _, _, _, _, rfl, hF9.mono (by omega), hO.mono (by omega), hW⟩
    | true =>
      by_cases he190 : er = 190
      · subst he190
        clear has hve2 hHO
        go_enter Tryz.func17, Tryz.ntmps17
        go_upto_region 1 with fail
        generalize (w.alloc (.cells #[.int .i64 200, .string (bs rs), .int .i64 minor, .slice B m d] 31)).alloc (.cells #[.int .i64 0, .string ⟨#[]⟩, .int .i64 0, .slice none 0 0] 31) = w2 at *
        go_wp2_with fail
        refine (hG.out _ hb0).mono ?_
        rintro x w3 ⟨rfl, hb3⟩
        have hr3 := row_keep hr2 hb3
        have hz3 := row_keep hz2 hb3
        replace hb0 := bnext hb0 hb3 hb0.size
        have hsz3 : w.heap.size + 2 ≤ w3.heap.size := Nat.le_trans hsz2 hb3.size
        clear hr2 hz2 hsz2 hb3 hG
        go_wp2_with fail
        refine (hPC.out _ hb0).mono ?_
        rintro x w4 ⟨A4, n4, c4, rfl, hP, hb4⟩
        have hr4 := row_keep hr3 hb4
        have hz4 := row_keep hz3 hb4
        replace hP := hP.mono (show w.heap.size + 2 ≤ w3.heap.size from hsz3)
        replace hb0 := bnext hb0 hb4 hb0.size
        have hsz4 : w.heap.size + 2 ≤ w4.heap.size := Nat.le_trans hsz3 hb4.size
        clear hr3 hz3 hsz3 hb4 hPC
        obtain ⟨a0, a1, a2, a3, -, -, -, f3⟩ := row_facts4 hr4
        have hC := cloneF_own B m d l w4 (hl.step hb0) (by omega)
        go_wp2_with fail
        refine hC.mono ?_
        rintro x w6 ⟨A6, n6, c6, rfl, hF, hb6⟩
        clear hC a0 a1 a2 a3 f3
        have hr6 := row_keep hr4 hb6
        have hz6 := row_keep hz4 hb6
        replace hb0 := bnext hb0 hb6 hb0.size
        have hsz6 : w.heap.size + 2 ≤ w6.heap.size := Nat.le_trans hsz4 hb6.size
        replace hF := hF.mono hsz4
        clear hr4 hz4 hsz4 hb6 hP
        obtain ⟨a0, a1, a2, a3, -, -, -, f3⟩ := row_facts4 hr6
        go_upto_region 5 with fail
        clear a0 a1 a2 a3 f3
        have hr7 := DA.heap_set hr6 3 (.slice A6 n6 c6)
        have hz7 := (DA.heap_rest (w := w6) (b := w.heap.size) (k := w.heap.size + 1) (by omega) 3 (.slice A6 n6 c6)).trans hz6
        have hb7 : Below w.heap.size w (w6.setCell ⟨w.heap.size, 3, none⟩ (.slice A6 n6 c6)) := hb0.setCell (Nat.le_refl _) _
        have hF7 : OwnF (w6.setCell ⟨w.heap.size, 3, none⟩ (.slice A6 n6 c6)) (w.heap.size + 2) (.slice A6 n6 c6) l := own_setG hF (by omega) _
        have hsz7 : w.heap.size + 2 ≤ (w6.setCell ⟨w.heap.size, 3, none⟩ (.slice A6 n6 c6)).heap.size := by rw [DA.size_set]; exact hsz6
        clear hr6 hz6 hb0 hF hsz6
        generalize w6.setCell ⟨w.heap.size, 3, none⟩ (.slice A6 n6 c6) = w7 at *
        simp only [List.setIfInBounds_toArray, List.set_cons_zero, List.set_cons_succ] at hr7
        have ok : TrOK (w.heap.size + 1) [tB 2 50 (w.heap.size + 2) b, tB 4 7 (w.heap.size + 2) b] := tB_ok (by omega) (tB_ok (by omega) TrOK.nil)
        have hlt0 : w.heap.size < w7.heap.size := by omega
        have HB : Hid (∀ W, Gb (w.heap.size + 1) w7 W → Below w.heap.size w W) := Lib.hid fun W hG => hb7.trans (hG.below (by omega) (by omega))
        refine DA.wp_region (n := 5) (V := fun iop uop => match iop with | 0 => uop = .agg #[.int .i64 200, .string (bs rs), .int .i64 minor, .slice A6 n6 c6] | 1 => uop = .slice Y k e | 2 => ∃ (A : Option Addr) (n c : Nat), uop = .slice A n c | 3 => uop = undef | 4 => ∃ (A : Option Addr) (n c : Nat), uop = .slice A n c | _ => uop = undef) (S := SR w7 (w.heap.size + 1) #[.int .i64 0, .string ⟨#[]⟩, .int .i64 0, .slice none 0 0] (fun _ => #[.int .i64 200, .string (bs rs), .int .i64 minor, .slice A6 n6 c6]) 31 0 3 48 112 [tB 2 50 (w.heap.size + 2) b, tB 4 7 (w.heap.size + 2) b]) (by kernel_rfl) rfl (SR.start rfl hz7) ?_
        refine' DA.Det.takeE (i := 0) (v := _) rfl (fun _ => Iff.rfl) (by kernel_rfl) (by kernel_rfl) (by kernel_rfl) (DA.YS.pure rfl rfl ?rpk2_0 ?spk2_0) ?npk2_0
        case rpk2_0 => intro a' L W hS; obtain ⟨k0, k1, k2, k3, -⟩ := row_facts4 ((hS.grow.block w.heap.size hlt0 (by omega)).trans hr7); go_simp; first | rfl | skip
        case spk2_0 => exact fun a' L W hL h => (SR.other ok (by intro t ht; simp only [List.mem_cons, List.not_mem_nil, or_false] at ht; rcases ht with rfl | rfl <;> simp) (by decide) (by simp) hL h (Below.refl _ _))
        try simp only [Act.put, List.setIfInBounds_toArray, List.set_cons_zero, List.set_cons_succ]
        refine' DA.Det.takeE (i := 1) (v := _) rfl (fun _ => Iff.rfl) (by kernel_rfl) (by kernel_rfl) (by kernel_rfl) (DA.YS.pure rfl rfl ?rpk2_1 ?spk2_1) ?npk2_1
        case rpk2_1 => intro a' L W hS; go_simp; first | rfl | skip
        case spk2_1 => exact fun a' L W hL h => (SR.other ok (by intro t ht; simp only [List.mem_cons, List.not_mem_nil, or_false] at ht; rcases ht with rfl | rfl <;> simp) (by decide) (by simp) hL h (Below.refl _ _))
        try simp only [Act.put, List.setIfInBounds_toArray, List.set_cons_zero, List.set_cons_succ]
        refine' DA.Det.takeL (i := 2) rfl ⟨_, none, 0, 0, rfl⟩ (by kernel_rfl) (by kernel_rfl) (by kernel_rfl) (callE (f := _) (args := _) rfl ?rpk2_2 ?cpk2_2) ?npk2_2
        case rpk2_2 => intro W; go_simp; constructor <;> rfl
        case cpk2_2 =>
          intro a' L W he hL hd hS
          have hW := HB.out W hS.grow
          refine (cloneB_own Y k e b W (hb.step hW) (by omega)).mono ?_
          rintro e w9 ⟨A9, n9, c9, rfl, ho9, hb9⟩
          have hR9 : (tB 2 50 (w.heap.size + 2) b).R w9 (.slice A9 n9 c9) := ⟨A9, n9, c9, rfl, (ho9).mono (Nat.le_trans hsz7 hS.grow.size)⟩
          exact ⟨_, rfl, ⟨A9, n9, c9, rfl⟩, SR.made (tB 2 50 (w.heap.size + 2) b) ok (by intro t ht; simp only [List.mem_cons, List.not_mem_nil, or_false] at ht; rcases ht with rfl | rfl; exact .inl rfl; exact .inr (by simp)) (by simp) (by simp) (by simp) hL hS hb9 hR9⟩
        rintro v2 ⟨Ak2_2, nk2_2, ck2_2, rfl⟩
        try simp only [Act.put, List.setIfInBounds_toArray, List.set_cons_zero, List.set_cons_succ]
        refine' DA.Det.takeE (i := 3) (v := undef) rfl (fun _ => Iff.rfl) (by kernel_rfl) (by kernel_rfl) (by kernel_rfl) (DA.YS.store (f := _) rfl rfl ?rpk2_3) ?npk2_3
        case rpk2_3 =>
          intro a' L W he hL hd hS
          have hbx := hS.box0 (DA.getD_un hL)
          have hiq := hd ⟨0, .data⟩ (by simp) (by kernel_rfl)
          obtain ⟨z0, z1, z2, z3, y0, y1, y2, y3⟩ := row_facts4 hbx
          constructor
          · go_simp; rfl
          · exact SR.stored (by intro t ht; simp only [List.mem_cons, List.not_mem_nil, or_false] at ht; rcases ht with rfl | rfl <;> simp) (by decide) hL hiq hS (slot_val (he (.tmp 48) (by simp [Op.operands, Call.operands])) (by simp [undef, Act.eval])) Gb.set4 (heap_set4 hbx) ok.set4
        try simp only [Act.put, List.setIfInBounds_toArray, List.set_cons_zero, List.set_cons_succ]
        refine' DA.Det.takeL (i := 4) rfl ⟨_, none, 0, 0, rfl⟩ (by kernel_rfl) (by kernel_rfl) (by kernel_rfl) (pureE (v := _) rfl ?rpk2_4 ?cpk2_4) ?npk2_4
        case rpk2_4 => intro W; go_simp; first | rfl | skip
        case cpk2_4 =>
          intro a' L W he hL hd hS
          have hR8 := hS.see (t := tB 2 50 (w.heap.size + 2) b) (by simp) (hd ⟨2, .data⟩ (by simp) (by kernel_rfl)) (he (.tmp 50) (by simp [Op.operands, Call.operands])) (by simp [undef, Act.eval])
          obtain ⟨A8, n8, c8, e8, ho8⟩ := hR8
          have e8' : (Value.slice Ak2_2 nk2_2 ck2_2) = .slice A8 n8 c8 := e8
          refine ⟨⟨_, _, _, rfl⟩, SR.made (tB 4 7 (w.heap.size + 2) b) ok (by intro t ht; simp only [List.mem_cons, List.not_mem_nil, or_false] at ht; rcases ht with rfl | rfl; exact .inr (by simp); exact .inl rfl) (by simp) (by simp) (by simp) hL hS (Below.refl _ _) ⟨_, _, _, rfl, ?_⟩⟩
          rw [e8']; exact ho8
        rintro v4 ⟨Ak2_4, nk2_4, ck2_4, rfl⟩
        try simp only [Act.put, List.setIfInBounds_toArray, List.set_cons_zero, List.set_cons_succ]
        refine DA.Det.done (by kernel_rfl) (fun W hS => ?_) _
        obtain ⟨u, -, hbx⟩ := hS.box1 rfl
        have hr := hS.row (tB 4 7 (w.heap.size + 2) b) (by simp) rfl
        obtain ⟨v7, e7, A9, n9, c9, hv, hO⟩ := hr
        have e7' : (Value.slice Ak2_4 nk2_4 ck2_4) = v7 := Option.some.inj e7
        subst hv
        rw [← e7'] at hO
        have hF9 : OwnF W (w.heap.size + 2) (.slice A6 n6 c6) l := own_gb hF7 (by omega) hS.grow
        have hW := HB.out W hS.grow
        obtain ⟨c0, c1, c2, c3, -⟩ := row_facts4 hbx
        clear hS e7 e7' hbx HB hr7 hF7 hz7 hb7
        go_wp2
        refine bodyPost_ret (v := .tuple #[.agg #[.int .i64 200, .string (bs rs), .int .i64 minor, .slice A6 n6 c6], .slice Ak2_4 nk2_4 ck2_4]) (by simp [results, Tryz.results17, go_sem, c0, c1, c2, c3]) rfl ⟨_, _, _, _, _, _, rfl, hF9.mono (by omega), hO.mono (by omega), hW⟩
      · have hh0 : hh = false := by
          rcases has with h | h | h | h
          · exact absurd rfl h
          · have := hve2 h; cases this
          · exact absurd h he190
          · exact h
        subst hh0
        clear has hve2
        have he19 : (er == 190) = false := by rw [beq_eq_false_iff_ne]; exact he190
        go_enter Tryz.func17, Tryz.ntmps17
        go_upto_region 1 with fail
        generalize (w.alloc (.cells #[.int .i64 200, .string (bs rs), .int .i64 minor, .slice B m d] 31)).alloc (.cells #[.int .i64 0, .string ⟨#[]⟩, .int .i64 0, .slice none 0 0] 31) = w2 at *
        go_wp2_with fail
        refine (hG.out _ hb0).mono ?_
        rintro x w3 ⟨rfl, hb3⟩
        have hr3 := row_keep hr2 hb3
        have hz3 := row_keep hz2 hb3
        replace hb0 := bnext hb0 hb3 hb0.size
        have hsz3 : w.heap.size + 2 ≤ w3.heap.size := Nat.le_trans hsz2 hb3.size
        clear hr2 hz2 hsz2 hb3 hG
        go_wp2_with fail
        refine (hPC.out _ hb0).mono ?_
        rintro x w4 ⟨A4, n4, c4, rfl, hP, hb4⟩
        have hr4 := row_keep hr3 hb4
        have hz4 := row_keep hz3 hb4
        replace hP := hP.mono (show w.heap.size + 2 ≤ w3.heap.size from hsz3)
        replace hb0 := bnext hb0 hb4 hb0.size
        have hsz4 : w.heap.size + 2 ≤ w4.heap.size := Nat.le_trans hsz3 hb4.size
        clear hr3 hz3 hsz3 hb4 hPC
        obtain ⟨a0, a1, a2, a3, -⟩ := row_facts4 hr4
        go_wp2_with fail
        refine (hHO.out _ hb0).mono ?_
        rintro x w4b ⟨rfl, hb4b⟩
        clear hHO a0 a1 a2 a3
        replace hr4 := row_keep hr4 hb4b
        replace hz4 := row_keep hz4 hb4b
        replace hP := hP.step hb4b
        replace hb0 := bnext hb0 hb4b hb0.size
        replace hsz4 : w.heap.size + 2 ≤ w4b.heap.size := Nat.le_trans hsz4 hb4b.size
        clear hb4b
        obtain ⟨a0, a1, a2, a3, -, -, -, f3⟩ := row_facts4 hr4
        have hC := cloneF_own B m d l w4b (hl.step hb0) (by omega)
        go_wp2_with fail
        refine hC.mono ?_
        rintro x w6 ⟨A6, n6, c6, rfl, hF, hb6⟩
        clear hC a0 a1 a2 a3 f3
        have hr6 := row_keep hr4 hb6
        have hz6 := row_keep hz4 hb6
        replace hb0 := bnext hb0 hb6 hb0.size
        have hsz6 : w.heap.size + 2 ≤ w6.heap.size := Nat.le_trans hsz4 hb6.size
        replace hF := hF.mono hsz4
        clear hr4 hz4 hsz4 hb6 hP
        obtain ⟨a0, a1, a2, a3, -, -, -, f3⟩ := row_facts4 hr6
        go_upto_region 5 with fail
        clear a0 a1 a2 a3 f3
        have hr7 := DA.heap_set hr6 3 (.slice A6 n6 c6)
        have hz7 := (DA.heap_rest (w := w6) (b := w.heap.size) (k := w.heap.size + 1) (by omega) 3 (.slice A6 n6 c6)).trans hz6
        have hb7 : Below w.heap.size w (w6.setCell ⟨w.heap.size, 3, none⟩ (.slice A6 n6 c6)) := hb0.setCell (Nat.le_refl _) _
        have hF7 : OwnF (w6.setCell ⟨w.heap.size, 3, none⟩ (.slice A6 n6 c6)) (w.heap.size + 2) (.slice A6 n6 c6) l := own_setG hF (by omega) _
        have hsz7 : w.heap.size + 2 ≤ (w6.setCell ⟨w.heap.size, 3, none⟩ (.slice A6 n6 c6)).heap.size := by rw [DA.size_set]; exact hsz6
        clear hr6 hz6 hb0 hF hsz6
        generalize w6.setCell ⟨w.heap.size, 3, none⟩ (.slice A6 n6 c6) = w7 at *
        simp only [List.setIfInBounds_toArray, List.set_cons_zero, List.set_cons_succ] at hr7
        have ok : TrOK (w.heap.size + 1) [tB 2 50 (w.heap.size + 2) b, tB 4 7 (w.heap.size + 2) b] := tB_ok (by omega) (tB_ok (by omega) TrOK.nil)
        have hlt0 : w.heap.size < w7.heap.size := by omega
        have HB : Hid (∀ W, Gb (w.heap.size + 1) w7 W → Below w.heap.size w W) := Lib.hid fun W hG => hb7.trans (hG.below (by omega) (by omega))
        refine DA.wp_region (n := 5) (V := fun iop uop => match iop with | 0 => uop = .agg #[.int .i64 200, .string (bs rs), .int .i64 minor, .slice A6 n6 c6] | 1 => uop = .slice Y k e | 2 => ∃ (A : Option Addr) (n c : Nat), uop = .slice A n c | 3 => uop = undef | 4 => ∃ (A : Option Addr) (n c : Nat), uop = .slice A n c | _ => uop = undef) (S := SR w7 (w.heap.size + 1) #[.int .i64 0, .string ⟨#[]⟩, .int .i64 0, .slice none 0 0] (fun _ => #[.int .i64 200, .string (bs rs), .int .i64 minor, .slice A6 n6 c6]) 31 0 3 48 112 [tB 2 50 (w.heap.size + 2) b, tB 4 7 (w.heap.size + 2) b]) (by kernel_rfl) rfl (SR.start rfl hz7) ?_
        refine' DA.Det.takeE (i := 0) (v := _) rfl (fun _ => Iff.rfl) (by kernel_rfl) (by kernel_rfl) (by kernel_rfl) (DA.YS.pure rfl rfl ?rpk3_0 ?spk3_0) ?npk3_0
        case rpk3_0 => intro a' L W hS; obtain ⟨k0, k1, k2, k3, -⟩ := row_facts4 ((hS.grow.block w.heap.size hlt0 (by omega)).trans hr7); go_simp; first | rfl | skip
        case spk3_0 => exact fun a' L W hL h => (SR.other ok (by intro t ht; simp only [List.mem_cons, List.not_mem_nil, or_false] at ht; rcases ht with rfl | rfl <;> simp) (by decide) (by simp) hL h (Below.refl _ _))
        try simp only [Act.put, List.setIfInBounds_toArray, List.set_cons_zero, List.set_cons_succ]
        refine' DA.Det.takeE (i := 1) (v := _) rfl (fun _ => Iff.rfl) (by kernel_rfl) (by kernel_rfl) (by kernel_rfl) (DA.YS.pure rfl rfl ?rpk3_1 ?spk3_1) ?npk3_1
        case rpk3_1 => intro a' L W hS; go_simp; first | rfl | skip
        case spk3_1 => exact fun a' L W hL h => (SR.other ok (by intro t ht; simp only [List.mem_cons, List.not_mem_nil, or_false] at ht; rcases ht with rfl | rfl <;> simp) (by decide) (by simp) hL h (Below.refl _ _))
        try simp only [Act.put, List.setIfInBounds_toArray, List.set_cons_zero, List.set_cons_succ]
        refine' DA.Det.takeL (i := 2) rfl ⟨_, none, 0, 0, rfl⟩ (by kernel_rfl) (by kernel_rfl) (by kernel_rfl) (callE (f := _) (args := _) rfl ?rpk3_2 ?cpk3_2) ?npk3_2
        case rpk3_2 => intro W; go_simp; constructor <;> rfl
        case cpk3_2 =>
          intro a' L W he hL hd hS
          have hW := HB.out W hS.grow
          refine (cloneB_own Y k e b W (hb.step hW) (by omega)).mono ?_
          rintro e w9 ⟨A9, n9, c9, rfl, ho9, hb9⟩
          have hR9 : (tB 2 50 (w.heap.size + 2) b).R w9 (.slice A9 n9 c9) := ⟨A9, n9, c9, rfl, (ho9).mono (Nat.le_trans hsz7 hS.grow.size)⟩
          exact ⟨_, rfl, ⟨A9, n9, c9, rfl⟩, SR.made (tB 2 50 (w.heap.size + 2) b) ok (by intro t ht; simp only [List.mem_cons, List.not_mem_nil, or_false] at ht; rcases ht with rfl | rfl; exact .inl rfl; exact .inr (by simp)) (by simp) (by simp) (by simp) hL hS hb9 hR9⟩
        rintro v2 ⟨Ak3_2, nk3_2, ck3_2, rfl⟩
        try simp only [Act.put, List.setIfInBounds_toArray, List.set_cons_zero, List.set_cons_succ]
        refine' DA.Det.takeE (i := 3) (v := undef) rfl (fun _ => Iff.rfl) (by kernel_rfl) (by kernel_rfl) (by kernel_rfl) (DA.YS.store (f := _) rfl rfl ?rpk3_3) ?npk3_3
        case rpk3_3 =>
          intro a' L W he hL hd hS
          have hbx := hS.box0 (DA.getD_un hL)
          have hiq := hd ⟨0, .data⟩ (by simp) (by kernel_rfl)
          obtain ⟨z0, z1, z2, z3, y0, y1, y2, y3⟩ := row_facts4 hbx
          constructor
          · go_simp; rfl
          · exact SR.stored (by intro t ht; simp only [List.mem_cons, List.not_mem_nil, or_false] at ht; rcases ht with rfl | rfl <;> simp) (by decide) hL hiq hS (slot_val (he (.tmp 48) (by simp [Op.operands, Call.operands])) (by simp [undef, Act.eval])) Gb.set4 (heap_set4 hbx) ok.set4
        try simp only [Act.put, List.setIfInBounds_toArray, List.set_cons_zero, List.set_cons_succ]
        refine' DA.Det.takeL (i := 4) rfl ⟨_, none, 0, 0, rfl⟩ (by kernel_rfl) (by kernel_rfl) (by kernel_rfl) (pureE (v := _) rfl ?rpk3_4 ?cpk3_4) ?npk3_4
        case rpk3_4 => intro W; go_simp; first | rfl | skip
        case cpk3_4 =>
          intro a' L W he hL hd hS
          have hR8 := hS.see (t := tB 2 50 (w.heap.size + 2) b) (by simp) (hd ⟨2, .data⟩ (by simp) (by kernel_rfl)) (he (.tmp 50) (by simp [Op.operands, Call.operands])) (by simp [undef, Act.eval])
          obtain ⟨A8, n8, c8, e8, ho8⟩ := hR8
          have e8' : (Value.slice Ak3_2 nk3_2 ck3_2) = .slice A8 n8 c8 := e8
          refine ⟨⟨_, _, _, rfl⟩, SR.made (tB 4 7 (w.heap.size + 2) b) ok (by intro t ht; simp only [List.mem_cons, List.not_mem_nil, or_false] at ht; rcases ht with rfl | rfl; exact .inr (by simp); exact .inl rfl) (by simp) (by simp) (by simp) hL hS (Below.refl _ _) ⟨_, _, _, rfl, ?_⟩⟩
          rw [e8']; exact ho8
        rintro v4 ⟨Ak3_4, nk3_4, ck3_4, rfl⟩
        try simp only [Act.put, List.setIfInBounds_toArray, List.set_cons_zero, List.set_cons_succ]
        refine DA.Det.done (by kernel_rfl) (fun W hS => ?_) _
        obtain ⟨u, -, hbx⟩ := hS.box1 rfl
        have hr := hS.row (tB 4 7 (w.heap.size + 2) b) (by simp) rfl
        obtain ⟨v7, e7, A9, n9, c9, hv, hO⟩ := hr
        have e7' : (Value.slice Ak3_4 nk3_4 ck3_4) = v7 := Option.some.inj e7
        subst hv
        rw [← e7'] at hO
        have hF9 : OwnF W (w.heap.size + 2) (.slice A6 n6 c6) l := own_gb hF7 (by omega) hS.grow
        have hW := HB.out W hS.grow
        obtain ⟨c0, c1, c2, c3, -⟩ := row_facts4 hbx
        clear hS e7 e7' hbx HB hr7 hF7 hz7 hb7
        go_wp2
        refine bodyPost_ret (v := .tuple #[.agg #[.int .i64 200, .string (bs rs), .int .i64 minor, .slice A6 n6 c6], .slice Ak3_4 nk3_4 ck3_4]) (by simp [results, Tryz.results17, go_sem, c0, c1, c2, c3]) rfl ⟨_, _, _, _, _, _, rfl, hF9.mono (by omega), hO.mono (by omega), hW⟩
  · have hst1 : (st != 200) = true := by rw [bne_iff_ne]; exact hst
    clear has hve2 hHO
    go_enter Tryz.func17, Tryz.ntmps17
    go_upto_region 1 with fail
    generalize (w.alloc (.cells #[.int .i64 st, .string (bs rs), .int .i64 minor, .slice B m d] 31)).alloc (.cells #[.int .i64 0, .string ⟨#[]⟩, .int .i64 0, .slice none 0 0] 31) = w2 at *
    go_wp2_with fail
    refine (hG.out _ hb0).mono ?_
    rintro x w3 ⟨rfl, hb3⟩
    have hr3 := row_keep hr2 hb3
    have hz3 := row_keep hz2 hb3
    replace hb0 := bnext hb0 hb3 hb0.size
    have hsz3 : w.heap.size + 2 ≤ w3.heap.size := Nat.le_trans hsz2 hb3.size
    clear hr2 hz2 hsz2 hb3 hG
    go_wp2_with fail
    refine (hPC.out _ hb0).mono ?_
    rintro x w4 ⟨A4, n4, c4, rfl, hP, hb4⟩
    have hr4 := row_keep hr3 hb4
    have hz4 := row_keep hz3 hb4
    replace hP := hP.mono (show w.heap.size + 2 ≤ w3.heap.size from hsz3)
    replace hb0 := bnext hb0 hb4 hb0.size
    have hsz4 : w.heap.size + 2 ≤ w4.heap.size := Nat.le_trans hsz3 hb4.size
    clear hr3 hz3 hsz3 hb4 hPC
    obtain ⟨a0, a1, a2, a3, -, -, -, f3⟩ := row_facts4 hr4
    have hC := cloneF_own B m d l w4 (hl.step hb0) (by omega)
    go_wp2_with fail
    refine hC.mono ?_
    rintro x w6 ⟨A6, n6, c6, rfl, hF, hb6⟩
    clear hC a0 a1 a2 a3 f3
    have hr6 := row_keep hr4 hb6
    have hz6 := row_keep hz4 hb6
    replace hb0 := bnext hb0 hb6 hb0.size
    have hsz6 : w.heap.size + 2 ≤ w6.heap.size := Nat.le_trans hsz4 hb6.size
    replace hF := hF.mono hsz4
    clear hr4 hz4 hsz4 hb6 hP
    obtain ⟨a0, a1, a2, a3, -, -, -, f3⟩ := row_facts4 hr6
    go_upto_region 5 with fail
    clear a0 a1 a2 a3 f3
    have hr7 := DA.heap_set hr6 3 (.slice A6 n6 c6)
    have hz7 := (DA.heap_rest (w := w6) (b := w.heap.size) (k := w.heap.size + 1) (by omega) 3 (.slice A6 n6 c6)).trans hz6
    have hb7 : Below w.heap.size w (w6.setCell ⟨w.heap.size, 3, none⟩ (.slice A6 n6 c6)) := hb0.setCell (Nat.le_refl _) _
    have hF7 : OwnF (w6.setCell ⟨w.heap.size, 3, none⟩ (.slice A6 n6 c6)) (w.heap.size + 2) (.slice A6 n6 c6) l := own_setG hF (by omega) _
    have hsz7 : w.heap.size + 2 ≤ (w6.setCell ⟨w.heap.size, 3, none⟩ (.slice A6 n6 c6)).heap.size := by rw [DA.size_set]; exact hsz6
    clear hr6 hz6 hb0 hF hsz6
    generalize w6.setCell ⟨w.heap.size, 3, none⟩ (.slice A6 n6 c6) = w7 at *
    simp only [List.setIfInBounds_toArray, List.set_cons_zero, List.set_cons_succ] at hr7
    have ok : TrOK (w.heap.size + 1) [tB 2 50 (w.heap.size + 2) b, tB 4 7 (w.heap.size + 2) b] := tB_ok (by omega) (tB_ok (by omega) TrOK.nil)
    have hlt0 : w.heap.size < w7.heap.size := by omega
    have HB : Hid (∀ W, Gb (w.heap.size + 1) w7 W → Below w.heap.size w W) := Lib.hid fun W hG => hb7.trans (hG.below (by omega) (by omega))
    refine DA.wp_region (n := 5) (V := fun iop uop => match iop with | 0 => uop = .agg #[.int .i64 st, .string (bs rs), .int .i64 minor, .slice A6 n6 c6] | 1 => uop = .slice Y k e | 2 => ∃ (A : Option Addr) (n c : Nat), uop = .slice A n c | 3 => uop = undef | 4 => ∃ (A : Option Addr) (n c : Nat), uop = .slice A n c | _ => uop = undef) (S := SR w7 (w.heap.size + 1) #[.int .i64 0, .string ⟨#[]⟩, .int .i64 0, .slice none 0 0] (fun _ => #[.int .i64 st, .string (bs rs), .int .i64 minor, .slice A6 n6 c6]) 31 0 3 48 112 [tB 2 50 (w.heap.size + 2) b, tB 4 7 (w.heap.size + 2) b]) (by kernel_rfl) rfl (SR.start rfl hz7) ?_
    refine' DA.Det.takeE (i := 0) (v := _) rfl (fun _ => Iff.rfl) (by kernel_rfl) (by kernel_rfl) (by kernel_rfl) (DA.YS.pure rfl rfl ?rpk4_0 ?spk4_0) ?npk4_0
    case rpk4_0 => intro a' L W hS; obtain ⟨k0, k1, k2, k3, -⟩ := row_facts4 ((hS.grow.block w.heap.size hlt0 (by omega)).trans hr7); go_simp; first | rfl | skip
    case spk4_0 => exact fun a' L W hL h => (SR.other ok (by intro t ht; simp only [List.mem_cons, List.not_mem_nil, or_false] at ht; rcases ht with rfl | rfl <;> simp) (by decide) (by simp) hL h (Below.refl _ _))
    try simp only [Act.put, List.setIfInBounds_toArray, List.set_cons_zero, List.set_cons_succ]
    refine' DA.Det.takeE (i := 1) (v := _) rfl (fun _ => Iff.rfl) (by kernel_rfl) (by kernel_rfl) (by kernel_rfl) (DA.YS.pure rfl rfl ?rpk4_1 ?spk4_1) ?npk4_1
    case rpk4_1 => intro a' L W hS; go_simp; first | rfl | skip
    case spk4_1 => exact fun a' L W hL h => (SR.other ok (by intro t ht; simp only [List.mem_cons, List.not_mem_nil, or_false] at ht; rcases ht with rfl | rfl <;> simp) (by decide) (by simp) hL h (Below.refl _ _))
    try simp only [Act.put, List.setIfInBounds_toArray, List.set_cons_zero, List.set_cons_succ]
    refine' DA.Det.takeL (i := 2) rfl ⟨_, none, 0, 0, rfl⟩ (by kernel_rfl) (by kernel_rfl) (by kernel_rfl) (callE (f := _) (args := _) rfl ?rpk4_2 ?cpk4_2) ?npk4_2
    case rpk4_2 => intro W; go_simp; constructor <;> rfl
    case cpk4_2 =>
      intro a' L W he hL hd hS
      have hW := HB.out W hS.grow
      refine (cloneB_own Y k e b W (hb.step hW) (by omega)).mono ?_
      rintro e w9 ⟨A9, n9, c9, rfl, ho9, hb9⟩
      have hR9 : (tB 2 50 (w.heap.size + 2) b).R w9 (.slice A9 n9 c9) := ⟨A9, n9, c9, rfl, (ho9).mono (Nat.le_trans hsz7 hS.grow.size)⟩
      exact ⟨_, rfl, ⟨A9, n9, c9, rfl⟩, SR.made (tB 2 50 (w.heap.size + 2) b) ok (by intro t ht; simp only [List.mem_cons, List.not_mem_nil, or_false] at ht; rcases ht with rfl | rfl; exact .inl rfl; exact .inr (by simp)) (by simp) (by simp) (by simp) hL hS hb9 hR9⟩
    rintro v2 ⟨Ak4_2, nk4_2, ck4_2, rfl⟩
    try simp only [Act.put, List.setIfInBounds_toArray, List.set_cons_zero, List.set_cons_succ]
    refine' DA.Det.takeE (i := 3) (v := undef) rfl (fun _ => Iff.rfl) (by kernel_rfl) (by kernel_rfl) (by kernel_rfl) (DA.YS.store (f := _) rfl rfl ?rpk4_3) ?npk4_3
    case rpk4_3 =>
      intro a' L W he hL hd hS
      have hbx := hS.box0 (DA.getD_un hL)
      have hiq := hd ⟨0, .data⟩ (by simp) (by kernel_rfl)
      obtain ⟨z0, z1, z2, z3, y0, y1, y2, y3⟩ := row_facts4 hbx
      constructor
      · go_simp; rfl
      · exact SR.stored (by intro t ht; simp only [List.mem_cons, List.not_mem_nil, or_false] at ht; rcases ht with rfl | rfl <;> simp) (by decide) hL hiq hS (slot_val (he (.tmp 48) (by simp [Op.operands, Call.operands])) (by simp [undef, Act.eval])) Gb.set4 (heap_set4 hbx) ok.set4
    try simp only [Act.put, List.setIfInBounds_toArray, List.set_cons_zero, List.set_cons_succ]
    refine' DA.Det.takeL (i := 4) rfl ⟨_, none, 0, 0, rfl⟩ (by kernel_rfl) (by kernel_rfl) (by kernel_rfl) (pureE (v := _) rfl ?rpk4_4 ?cpk4_4) ?npk4_4
    case rpk4_4 => intro W; go_simp; first | rfl | skip
    case cpk4_4 =>
      intro a' L W he hL hd hS
      have hR8 := hS.see (t := tB 2 50 (w.heap.size + 2) b) (by simp) (hd ⟨2, .data⟩ (by simp) (by kernel_rfl)) (he (.tmp 50) (by simp [Op.operands, Call.operands])) (by simp [undef, Act.eval])
      obtain ⟨A8, n8, c8, e8, ho8⟩ := hR8
      have e8' : (Value.slice Ak4_2 nk4_2 ck4_2) = .slice A8 n8 c8 := e8
      refine ⟨⟨_, _, _, rfl⟩, SR.made (tB 4 7 (w.heap.size + 2) b) ok (by intro t ht; simp only [List.mem_cons, List.not_mem_nil, or_false] at ht; rcases ht with rfl | rfl; exact .inr (by simp); exact .inl rfl) (by simp) (by simp) (by simp) hL hS (Below.refl _ _) ⟨_, _, _, rfl, ?_⟩⟩
      rw [e8']; exact ho8
    rintro v4 ⟨Ak4_4, nk4_4, ck4_4, rfl⟩
    try simp only [Act.put, List.setIfInBounds_toArray, List.set_cons_zero, List.set_cons_succ]
    refine DA.Det.done (by kernel_rfl) (fun W hS => ?_) _
    obtain ⟨u, -, hbx⟩ := hS.box1 rfl
    have hr := hS.row (tB 4 7 (w.heap.size + 2) b) (by simp) rfl
    obtain ⟨v7, e7, A9, n9, c9, hv, hO⟩ := hr
    have e7' : (Value.slice Ak4_4 nk4_4 ck4_4) = v7 := Option.some.inj e7
    subst hv
    rw [← e7'] at hO
    have hF9 : OwnF W (w.heap.size + 2) (.slice A6 n6 c6) l := own_gb hF7 (by omega) hS.grow
    have hW := HB.out W hS.grow
    obtain ⟨c0, c1, c2, c3, -⟩ := row_facts4 hbx
    clear hS e7 e7' hbx HB hr7 hF7 hz7 hb7
    go_wp2
    refine bodyPost_ret (v := .tuple #[.agg #[.int .i64 st, .string (bs rs), .int .i64 minor, .slice A6 n6 c6], .slice Ak4_4 nk4_4 ck4_4]) (by simp [results, Tryz.results17, go_sem, c0, c1, c2, c3]) rfl ⟨_, _, _, _, _, _, rfl, hF9.mono (by omega), hO.mono (by omega), hW⟩
end Go.Proofs.YtcaekfebnhedpaaGreatDoor
