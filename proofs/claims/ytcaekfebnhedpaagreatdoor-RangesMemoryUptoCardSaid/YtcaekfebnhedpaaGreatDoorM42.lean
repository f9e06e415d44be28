/- Joined texts: Apply where one span is asked for. The conditions stand in each line. -/
import Derived.Test.YtcaekfebnhedpaaGreatDoorM32
import Derived.Test.YtcaekfebnhedpaaGreatDoorM34
set_option linter.unusedVariables false
set_option linter.unusedSimpArgs false
namespace Go.Proofs.YtcaekfebnhedpaaGreatDoor
open Go.RowKit

set_option maxRecDepth 100000
theorem own_litS (w : World) (base : Nat) (l : List (List UInt8)) (cs : Array Value) (hc : cs = (strs l).toArray) (hb : base ≤ w.heap.size) (hm : l.length ≤ maxLen) : OwnS (w.alloc (.cells cs 9)) base (.slice (some ⟨w.heap.size, 0, none⟩) l.length l.length) l := by
  subst hc
  exact ⟨by rw [strs_length]; omega, .inr ⟨w.heap.size, l.length, (strs l).toArray, rfl, hb, heap_alloc_new w _, Nat.le_refl _, hm, by simp [strs_length], by rw [List.take_of_length_le (by simp [strs_length])]⟩⟩
set_option maxHeartbeats 8000000 in
theorem apply_one (A : Option Addr) (n c : Nat) (q : List Fld) (st : Int) (rs : List UInt8) (minor : Int) (B : Option Addr) (m d : Nat) (l : List Fld) (Y : Option Addr) (k e : Nat) (b : List UInt8) (w : World) (ht : Tab w) (hM : MaxL w)
    (hq : RdF w A n q) (hn : n ≤ 1048576) (hqs : FlenS q) (hqj : (Frs.getL q Rg.rngR).length ≤ 1073741824) (hl : RdF w B m l) (hm : m ≤ 1048576) (hls : FlenS l) (hb : RdB w Y k b) (hk : k ≤ 4194304) (hke : k ≤ e) (hee : e ≤ maxLen) (p : Rg.Sp) (has : ¬ Rg.asIs q st l b) (hsp1 : Rg.parseL (Frs.getL q Rg.rngR) b.length = ([p], 0)) (hpin : 0 ≤ p.1 ∧ p.1 ≤ p.2 ∧ p.2 < (b.length : Int)) :
    Calls Tryz.prog 17 #[.slice A n c, respV st rs minor B m d, .slice Y k e] w fun x w' => ApOut w minor (Rg.oneA l b p) x w' := by
  unfold respV
  have hee2 : (e : Int) ≤ 9223372036854775807 := by unfold maxLen at hee; omega
  have hb1 := alloc_below w (.cells #[.int .i64 st, .string (bs rs), .int .i64 minor, .slice B m d] 31)
  have hr1 := heap_alloc_new w (.cells #[.int .i64 st, .string (bs rs), .int .i64 minor, .slice B m d] 31)
  have hb2 := alloc_below (w.alloc (.cells #[.int .i64 st, .string (bs rs), .int .i64 minor, .slice B m d] 31)) (.cells #[.int .i64 0, .string ⟨#[]⟩, .int .i64 0, .slice none 0 0] 31)
  have hz2 := heap_alloc_new (w.alloc (.cells #[.int .i64 st, .string (bs rs), .int .i64 minor, .slice B m d] 31)) (.cells #[.int .i64 0, .string ⟨#[]⟩, .int .i64 0, .slice none 0 0] 31)
  rw [show (w.alloc (.cells #[.int .i64 st, .string (bs rs), .int .i64 minor, .slice B m d] 31)).heap.size = w.heap.size + 1 by simp] at hz2
  have hr2 := row_keep hr1 hb2
  have hb0 := bnext hb1 hb2 hb1.size
  have hsz2 : w.heap.size + 2 ≤ ((w.alloc (.cells #[.int .i64 st, .string (bs rs), .int .i64 minor, .slice B m d] 31)).alloc (.cells #[.int .i64 0, .string ⟨#[]⟩, .int .i64 0, .slice none 0 0] 31)).heap.size := by simp
  have hG : Hid (∀ W, Below w.heap.size w W → Calls Tryz.prog 24 #[.slice A n c, .string (bs Rg.rngP)] W fun x w' => x = .returned (.tuple #[.string (bs (Frs.getL q Rg.rngR)), .bool (!(valuesL q Rg.rngR).isEmpty)]) ∧ Below W.heap.size W w') := Lib.hid fun W hW => by
    have h := get_any A n c q Rg.rngP W (hq.step hW) hn hqs (by decide)
    change Calls Tryz.prog 24 _ _ fun x w' => x = .returned (.tuple #[.string (bs (Frs.getL q Rg.rngP)), .bool (!(valuesL q Rg.rngP).isEmpty)]) ∧ _ at h
    rw [show Frs.getL q Rg.rngP = Frs.getL q Rg.rngR from Frs.get_name rfl, show valuesL q Rg.rngP = valuesL q Rg.rngR from valuesL_nameG rfl] at h
    exact h
  clear hr1 hb1 hb2
  have hPC : Hid (∀ W, Below w.heap.size w W → Calls Tryz.prog 11 #[.string (bs (Frs.getL q Rg.rngR)), .int .i64 (k : Int)] W fun x w' => RgOut W (Frs.getL q Rg.rngR) (k : Int) x w') := Lib.hid fun W hW => parse19_p (Frs.getL q Rg.rngR) (k : Int) W (maxl_b hM hW) hqj (by omega) (by omega)
  unfold RgOut at hPC
  have hHO : Hid (∀ W, Below w.heap.size w W → Calls Tryz.prog 35 #[.slice A n c, .agg #[.int .i64 st, .string (bs rs), .int .i64 minor, .slice B m d]] W fun x w' => x = .returned (.bool (Rg.holdsL q l)) ∧ Below W.heap.size W w') := Lib.hid fun W hW => holds_p A n c q st rs minor B m d l W (hq.step hW) hn hqs (hl.step hW) hm hls
  have h200 : st = 200 := Classical.byContradiction fun h => has (.inl h)
  have hvne : valuesL q Rg.rngR ≠ [] := fun h => has (.inr (.inl h))
  have h190 : (Rg.parseL (Frs.getL q Rg.rngR) b.length).2 ≠ 190 := fun h => has (.inr (.inr (.inl h)))
  have hhT : Rg.holdsL q l = true := by
    cases h : Rg.holdsL q l with
    | true => rfl
    | false => exact absurd (.inr (.inr (.inr h))) has
  have hbl := hb.1
  rw [hbl] at h190
  have hve2 : (!(valuesL q Rg.rngR).isEmpty) = true := by
    cases h : valuesL q Rg.rngR with
    | nil => exact absurd h hvne
    | cons x r => rfl
  subst h200
  clear has hvne
  rw [hbl] at hsp1 hpin
  have HA : Hid (Rg.oneA l b p = ⟨206, Rg.partT, Rg.putF (withoutF l [Rg.clP]) Rg.crP (Rg.placeL p k), Rg.pieceL p b⟩) := Lib.hid (by unfold Rg.oneA; rw [hbl])
  generalize Rg.oneA l b p = AN at *
  obtain ⟨x, y⟩ := p
  dsimp only at hpin
  obtain ⟨x0, x1, x2⟩ := hpin
  obtain ⟨i, rfl⟩ : ∃ i : Nat, x = i := ⟨x.toNat, by omega⟩
  obtain ⟨j, rfl⟩ : ∃ j : Nat, y = j := ⟨y.toNat, by omega⟩
  have HPC : Hid (Rg.pieceL ((i : Int), (j : Int)) b = (b.drop i).take (j + 1 - i)) := Lib.hid (by unfold Rg.pieceL; simp)
  have HPL : Hid (∀ W, Tab W → Calls Tryz.prog 40 #[.agg #[.int .i64 (i : Int), .int .i64 (j : Int)], .int .i64 (k : Int)] W fun e w' => e = .returned (.string (bs (Rg.placeL ((i : Int), (j : Int)) k))) ∧ Below W.heap.size W w') := Lib.hid fun W hT => place_p i j k W hT (by omega) (by omega) (by omega) (by omega) (by omega)
  rw [hsp1] at hPC
  rw [HPC.out] at HA
  generalize Frs.getL q Rg.rngR = V at *
  rw [hve2] at hG
  rw [hhT] at hHO
  clear hve2 hhT h190 HPC hsp1
  dsimp only at hPC
  go_enter Tryz.func17, Tryz.ntmps17
  go_upto_region 1 with fail
  generalize (w.alloc (.cells #[.int .i64 200, .string (bs rs), .int .i64 minor, .slice B m d] 31)).alloc (.cells #[.int .i64 0, .string ⟨#[]⟩, .int .i64 0, .slice none 0 0] 31) = w2 at *
  go_wp2_with fail
  refine (hG.out _ hb0).mono ?_
  rintro xx w3 ⟨rfl, hb3⟩
  have hr3 := row_keep hr2 hb3
  have hz3 := row_keep hz2 hb3
  replace hb0 := bnext hb0 hb3 hb0.size
  have hsz3 : w.heap.size + 2 ≤ w3.heap.size := Nat.le_trans hsz2 hb3.size
  clear hr2 hz2 hsz2 hb3 hG
  go_wp2_with fail
  refine (hPC.out _ hb0).mono ?_
  rintro xx w4 ⟨A4, n4, c4, rfl, hP, hb4⟩
  have hr4 := row_keep hr3 hb4
  have hz4 := row_keep hz3 hb4
  replace hP := hP.mono (show w.heap.size + 2 ≤ w3.heap.size from hsz3)
  replace hb0 := bnext hb0 hb4 hb0.size
  have hsz4 : w.heap.size + 2 ≤ w4.heap.size := Nat.le_trans hsz3 hb4.size
  clear hr3 hz3 hsz3 hb4 hPC
  obtain ⟨a0, a1, a2, a3, -⟩ := row_facts4 hr4
  go_wp2_with fail
  refine (hHO.out _ hb0).mono ?_
  rintro xx w4b ⟨rfl, hb4b⟩
  clear hHO a0 a1 a2 a3
  replace hr4 := row_keep hr4 hb4b
  replace hz4 := row_keep hz4 hb4b
  replace hP := hP.step hb4b
  replace hb0 := bnext hb0 hb4b hb0.size
  replace hsz4 : w.heap.size + 2 ≤ w4b.heap.size := Nat.le_trans hsz4 hb4b.size
  clear hb4b
  obtain ⟨a0, a1, a2, a3, -⟩ := row_facts4 hr4
  have hal6 := alloc_below w4b (.cells #[.int .i64 206, .string (⟨#[80, 97, 114, 116, 105, 97, 108, 32, 67, 111, 110, 116, 101, 110, 116]⟩), .int .i64 minor, .slice none 0 0] 31)
  have ho6 := heap_alloc_new w4b (.cells #[.int .i64 206, .string (⟨#[80, 97, 114, 116, 105, 97, 108, 32, 67, 111, 110, 116, 101, 110, 116]⟩), .int .i64 minor, .slice none 0 0] 31)
  go_upto_region 7 with fail
  clear a0 a1 a2 a3
  replace hr4 := row_keep hr4 hal6
  replace hz4 := row_keep hz4 hal6
  replace hP := hP.step hal6
  replace hb0 := bnext hb0 hal6 hb0.size
  have hsz6 : w.heap.size + 3 ≤ (w4b.alloc (.cells #[.int .i64 206, .string (⟨#[80, 97, 114, 116, 105, 97, 108, 32, 67, 111, 110, 116, 101, 110, 116]⟩), .int .i64 minor, .slice none 0 0] 31)).heap.size := by simp; omega
  have hg6 : w.heap.size + 2 ≤ w4b.heap.size := hsz4
  have hg6b : w4b.heap.size < (w4b.alloc (.cells #[.int .i64 206, .string (⟨#[80, 97, 114, 116, 105, 97, 108, 32, 67, 111, 110, 116, 101, 110, 116]⟩), .int .i64 minor, .slice none 0 0] 31)).heap.size := by simp
  clear hal6 hsz4
  generalize w4b.alloc (.cells #[.int .i64 206, .string (⟨#[80, 97, 114, 116, 105, 97, 108, 32, 67, 111, 110, 116, 101, 110, 116]⟩), .int .i64 minor, .slice none 0 0] 31) = w6 at *
  generalize w4b.heap.size = g6 at *
  have hn4 : n4 = 1 := by have := hP.rd.1; simpa using this.symm
  subst hn4
  obtain ⟨gs, os_, X, Y9, hA4, hgs, HX, s0, s1⟩ := hP.rd.at_ (k := 0) (by omega)
  have hXY := HX.out
  simp only [List.getElem?_cons_zero, Option.some.injEq, Prod.mk.injEq] at hXY
  obtain ⟨rfl, rfl⟩ := hXY
  subst hA4
  simp only [Nat.zero_mul, Nat.add_zero] at s0 s1
  clear HX hP
  have hal8 := alloc_below w6 (.cells #[.int .i64 (i : Int), .int .i64 (j : Int)] 43)
  have hs8 := heap_alloc_new w6 (.cells #[.int .i64 (i : Int), .int .i64 (j : Int)] 43)
  have hg8 : w6.heap.size < (w6.alloc (.cells #[.int .i64 (i : Int), .int .i64 (j : Int)] 43)).heap.size := by simp
  obtain ⟨p0, p1, p2, p3, f0, f1, f2, f3⟩ := row_facts4 ho6
  go_upto_region 13 with fail
  clear p0 p1 p2 p3 f0 f1 f2 f3 s0 s1
  replace hr4 := row_keep hr4 hal8
  replace hz4 := row_keep hz4 hal8
  replace ho6 := row_keep ho6 hal8
  replace hb0 := bnext hb0 hal8 hb0.size
  clear hal8
  generalize w6.alloc (.cells #[.int .i64 (i : Int), .int .i64 (j : Int)] 43) = w8 at *
  generalize w6.heap.size = g8 at *
  have HWn : Hid ((withoutF l [Rg.clP]).length ≤ m) := Lib.hid (by rw [← hl.1]; exact List.length_filter_le _ _)
  have HWo : Hid (FlenOK (withoutF l [Rg.clP])) := Lib.hid (fun f hf => hls.ok f (List.mem_filter.1 hf).1)
  have HCW : Hid (∀ (A2 : Option Addr) (n2 c2 : Nat) (W : World), Below w.heap.size w W → RdS W A2 n2 [Rg.clP] → Calls Tryz.prog 38 #[.slice B m d, .slice A2 n2 c2] W fun e w' => ∃ A' n' c', e = .returned (.slice A' n' c') ∧ OwnF w' W.heap.size (.slice A' n' c') (withoutF l [Rg.clP]) ∧ Below W.heap.size W w') := Lib.hid fun A2 n2 c2 W hW hr => without_own B A2 m d n2 c2 l [Rg.clP] W (hl.step hW) hr (by omega) (by have := hr.1; simp at this; omega) hls.ok (by intro s hs; rw [List.mem_singleton] at hs; subst hs; simp)
  generalize withoutF l [Rg.clP] = WF at *
  generalize Rg.placeL ((i : Int), (j : Int)) k = PT at *
  have HCP : Hid (∀ (A2 : Option Addr) (n2 c2 : Nat) (W : World), RdF W A2 n2 WF → Calls Tryz.prog 26 #[.slice A2 n2 c2, .string (bs Rg.crP), .string (bs PT)] W fun e w' => ∃ A' n' c', e = .returned (.slice A' n' c') ∧ OwnF w' W.heap.size (.slice A' n' c') (Rg.putF WF Rg.crP PT) ∧ Below W.heap.size W w') := Lib.hid fun A2 n2 c2 W hr => put_p A2 n2 c2 WF Rg.crP PT W hr (by have := HWn.out; have := hr.1; omega) HWo.out (by decide)
  generalize Rg.putF WF Rg.crP PT = PF at *
  have ok : TrOK g6 [tS 2 79 (g8 + 1) [Rg.clP], tF 3 80 (g8 + 1) WF, tF 8 85 (g8 + 1) PF] := tS_ok (by omega) (tF_ok (by omega) (tF_ok (by omega) TrOK.nil))
  have hlt0 : w.heap.size < w8.heap.size := by omega
  have HB : Hid (∀ W, Gb g6 w8 W → Below w.heap.size w W) := Lib.hid fun W hG => hb0.trans (hG.below (by omega) (by omega))
  clear hl hls hq hqs
  refine DA.wp_region (n := 11) (V := fun iop uop => match iop with | 0 => uop = .pointer (some ⟨w.heap.size, 3, none⟩) | 1 => uop = .slice B m d | 2 => ∃ (A : Option Addr) (n c : Nat), uop = .slice A n c | 3 => ∃ (A : Option Addr) (n c : Nat), uop = .slice A n c | 4 => uop = .agg #[.int .i64 (i : Int), .int .i64 (j : Int)] | 5 => uop = .slice Y k e | 6 => uop = .int .i64 (k : Int) | 7 => uop = .string (bs PT) | 8 => ∃ (A : Option Addr) (n c : Nat), uop = .slice A n c | 9 => uop = .pointer (some ⟨g6, 3, none⟩) | 10 => uop = undef | _ => uop = undef) (S := SR w8 g6 #[.int .i64 206, .string ⟨#[80, 97, 114, 116, 105, 97, 108, 32, 67, 111, 110, 116, 101, 110, 116]⟩, .int .i64 minor, .slice none 0 0] (fun v => #[.int .i64 206, .string ⟨#[80, 97, 114, 116, 105, 97, 108, 32, 67, 111, 110, 116, 101, 110, 116]⟩, .int .i64 minor, v]) 31 8 10 85 112 [tS 2 79 (g8 + 1) [Rg.clP], tF 3 80 (g8 + 1) WF, tF 8 85 (g8 + 1) PF]) (by kernel_rfl) rfl (SR.start rfl ho6) ?_
  refine' DA.Det.takeE (i := 0) (v := _) rfl (fun _ => Iff.rfl) (by kernel_rfl) (by kernel_rfl) (by kernel_rfl) (DA.YS.pure rfl rfl ?rpa0 ?spa0) ?npa0
  case rpa0 => intro a' L W hS; go_simp; first | rfl | skip
  case spa0 => exact fun a' L W hL h => (SR.other ok (by intro t ht; simp only [List.mem_cons, List.not_mem_nil, or_false] at ht; rcases ht with rfl | rfl | rfl <;> simp) (by decide) (by simp) hL h (Below.refl _ _))
  try simp only [Act.put, List.setIfInBounds_toArray, List.set_cons_zero, List.set_cons_succ]
  refine' DA.Det.takeE (i := 1) (v := _) rfl (fun _ => Iff.rfl) (by kernel_rfl) (by kernel_rfl) (by kernel_rfl) (DA.YS.pure rfl rfl ?rpa1 ?spa1) ?npa1
  case rpa1 => intro a' L W hS; obtain ⟨k0, k1, k2, k3, -⟩ := row_facts4 ((hS.grow.block w.heap.size hlt0 (by omega)).trans hr4); go_simp; first | rfl | skip
  case spa1 => exact fun a' L W hL h => (SR.other ok (by intro t ht; simp only [List.mem_cons, List.not_mem_nil, or_false] at ht; rcases ht with rfl | rfl | rfl <;> simp) (by decide) (by simp) hL h (Below.refl _ _))
  try simp only [Act.put, List.setIfInBounds_toArray, List.set_cons_zero, List.set_cons_succ]
  refine' DA.Det.takeL (i := 2) rfl ⟨_, none, 0, 0, rfl⟩ (by kernel_rfl) (by kernel_rfl) (by kernel_rfl) (DA.YS.make (v := fun W => .slice (some ⟨W.heap.size, 0, none⟩) 1 1) (f := fun W => W.alloc (.cells #[.string ⟨#[67, 111, 110, 116, 101, 110, 116, 45, 76, 101, 110, 103, 116, 104]⟩] 9)) rfl ?rpa2 ?cpa2) ?npa2
  case rpa2 => intro W; go_simp; first | rfl | skip
  case cpa2 =>
    intro a' L W hL hS
    exact ⟨⟨_, _, _, rfl⟩, SR.made (tS 2 79 (g8 + 1) [Rg.clP]) ok (by intro t ht; simp only [List.mem_cons, List.not_mem_nil, or_false] at ht; rcases ht with rfl | rfl | rfl; exact .inl rfl; exact .inr (by simp); exact .inr (by simp)) (by simp) (by simp) (by simp) hL hS (alloc_below _ _) ⟨_, _, _, rfl, own_litS W (g8 + 1) [Rg.clP] _ rfl (Nat.le_trans (show g8 + 1 ≤ w8.heap.size from hg8) hS.grow.size) (by simp [maxLen])⟩⟩
  rintro v2 ⟨Aa2, na2, ca2, rfl⟩
  try simp only [Act.put, List.setIfInBounds_toArray, List.set_cons_zero, List.set_cons_succ]
  refine' DA.Det.takeL (i := 3) rfl ⟨_, none, 0, 0, rfl⟩ (by kernel_rfl) (by kernel_rfl) (by kernel_rfl) (callE (f := _) (args := _) rfl ?rpa3 ?cpa3) ?npa3
  case rpa3 => intro W; go_simp; constructor <;> rfl
  case cpa3 =>
    intro a' L W he hL hd hS
    have hR8 := hS.see (t := tS 2 79 (g8 + 1) [Rg.clP]) (by simp) (hd ⟨2, .data⟩ (by simp) (by kernel_rfl)) (he (.tmp 79) (by simp [Op.operands, Call.operands])) (by simp [undef, Act.eval])
    obtain ⟨A8, n8, c8, e8, ho8⟩ := hR8
    have e8' : (Value.slice Aa2 na2 ca2) = .slice A8 n8 c8 := e8
    injection e8' with q1 q2 q3
    subst q1 q2 q3
    refine (HCW.out _ _ _ W (HB.out W hS.grow) ho8.rd).mono ?_
    rintro e w9 ⟨A9, n9, c9, rfl, ho9, hb9⟩
    have hR9 : (tF 3 80 (g8 + 1) WF).R w9 (.slice A9 n9 c9) := ⟨A9, n9, c9, rfl, (ho9).mono (Nat.le_trans (show g8 + 1 ≤ w8.heap.size from hg8) hS.grow.size)⟩
    exact ⟨_, rfl, ⟨A9, n9, c9, rfl⟩, SR.made (tF 3 80 (g8 + 1) WF) ok (by intro t ht; simp only [List.mem_cons, List.not_mem_nil, or_false] at ht; rcases ht with rfl | rfl | rfl; exact .inr (by simp); exact .inl rfl; exact .inr (by simp)) (by simp) (by simp) (by simp) hL hS hb9 hR9⟩
  rintro v3 ⟨Aa3, na3, ca3, rfl⟩
  try simp only [Act.put, List.setIfInBounds_toArray, List.set_cons_zero, List.set_cons_succ]
  refine' DA.Det.takeE (i := 4) (v := _) rfl (fun _ => Iff.rfl) (by kernel_rfl) (by kernel_rfl) (by kernel_rfl) (DA.YS.pure rfl rfl ?rpa4 ?spa4) ?npa4
  case rpa4 => intro a' L W hS; obtain ⟨k0, k1, -⟩ := row_facts2s ((hS.grow.block g8 hg8 (by omega)).trans hs8); go_simp; first | rfl | skip
  case spa4 => exact fun a' L W hL h => (SR.other ok (by intro t ht; simp only [List.mem_cons, List.not_mem_nil, or_false] at ht; rcases ht with rfl | rfl | rfl <;> simp) (by decide) (by simp) hL h (Below.refl _ _))
  try simp only [Act.put, List.setIfInBounds_toArray, List.set_cons_zero, List.set_cons_succ]
  refine' DA.Det.takeE (i := 5) (v := _) rfl (fun _ => Iff.rfl) (by kernel_rfl) (by kernel_rfl) (by kernel_rfl) (DA.YS.pure rfl rfl ?rpa5 ?spa5) ?npa5
  case rpa5 => intro a' L W hS; go_simp; first | rfl | skip
  case spa5 => exact fun a' L W hL h => (SR.other ok (by intro t ht; simp only [List.mem_cons, List.not_mem_nil, or_false] at ht; rcases ht with rfl | rfl | rfl <;> simp) (by decide) (by simp) hL h (Below.refl _ _))
  try simp only [Act.put, List.setIfInBounds_toArray, List.set_cons_zero, List.set_cons_succ]
  refine' DA.Det.takeE (i := 6) (v := _) rfl (fun _ => Iff.rfl) (by kernel_rfl) (by kernel_rfl) (by kernel_rfl) (DA.YS.pure rfl rfl ?rpa6 ?spa6) ?npa6
  case rpa6 => intro a' L W hS; go_simp; first | rfl | skip
  case spa6 => exact fun a' L W hL h => (SR.other ok (by intro t ht; simp only [List.mem_cons, List.not_mem_nil, or_false] at ht; rcases ht with rfl | rfl | rfl <;> simp) (by decide) (by simp) hL h (Below.refl _ _))
  try simp only [Act.put, List.setIfInBounds_toArray, List.set_cons_zero, List.set_cons_succ]
  refine' DA.Det.takeE (i := 7) (v := _) rfl (fun _ => Iff.rfl) (by kernel_rfl) (by kernel_rfl) (by kernel_rfl) (DA.YS.call (f := _) (args := _) rfl ?rpa7 ?cpa7) ?npa7
  case rpa7 => intro W; go_simp; constructor <;> rfl
  case cpa7 =>
    intro a' L W hL hS
    refine (HPL.out W (tab_b ht (HB.out W hS.grow))).mono ?_
    rintro e w9 ⟨rfl, hb9⟩
    exact ⟨_, rfl, rfl, (SR.other ok (by intro t ht; simp only [List.mem_cons, List.not_mem_nil, or_false] at ht; rcases ht with rfl | rfl | rfl <;> simp) (by decide) (by simp) hL hS hb9)⟩
  try simp only [Act.put, List.setIfInBounds_toArray, List.set_cons_zero, List.set_cons_succ]
  refine' DA.Det.takeL (i := 8) rfl ⟨_, none, 0, 0, rfl⟩ (by kernel_rfl) (by kernel_rfl) (by kernel_rfl) (callE (f := _) (args := _) rfl ?rpa8 ?cpa8) ?npa8
  case rpa8 => intro W; go_simp; constructor <;> rfl
  case cpa8 =>
    intro a' L W he hL hd hS
    have hR8 := hS.see (t := tF 3 80 (g8 + 1) WF) (by simp) (hd ⟨3, .data⟩ (by simp) (by kernel_rfl)) (he (.tmp 80) (by simp [Op.operands, Call.operands])) (by simp [undef, Act.eval])
    obtain ⟨A8, n8, c8, e8, ho8⟩ := hR8
    have e8' : (Value.slice Aa3 na3 ca3) = .slice A8 n8 c8 := e8
    injection e8' with q1 q2 q3
    subst q1 q2 q3
    refine (HCP.out _ _ _ W ho8.rd).mono ?_
    rintro e w9 ⟨A9, n9, c9, rfl, ho9, hb9⟩
    have hR9 : (tF 8 85 (g8 + 1) PF).R w9 (.slice A9 n9 c9) := ⟨A9, n9, c9, rfl, (ho9).mono (Nat.le_trans (show g8 + 1 ≤ w8.heap.size from hg8) hS.grow.size)⟩
    exact ⟨_, rfl, ⟨A9, n9, c9, rfl⟩, SR.made (tF 8 85 (g8 + 1) PF) ok (by intro t ht; simp only [List.mem_cons, List.not_mem_nil, or_false] at ht; rcases ht with rfl | rfl | rfl; exact .inr (by simp); exact .inr (by simp); exact .inl rfl) (by simp) (by simp) (by simp) hL hS hb9 hR9⟩
  rintro v8 ⟨Aa8, na8, ca8, rfl⟩
  try simp only [Act.put, List.setIfInBounds_toArray, List.set_cons_zero, List.set_cons_succ]
  refine' DA.Det.takeE (i := 9) (v := _) rfl (fun _ => Iff.rfl) (by kernel_rfl) (by kernel_rfl) (by kernel_rfl) (DA.YS.pure rfl rfl ?rpa9 ?spa9) ?npa9
  case rpa9 => intro a' L W hS; go_simp; first | rfl | skip
  case spa9 => exact fun a' L W hL h => (SR.other ok (by intro t ht; simp only [List.mem_cons, List.not_mem_nil, or_false] at ht; rcases ht with rfl | rfl | rfl <;> simp) (by decide) (by simp) hL h (Below.refl _ _))
  try simp only [Act.put, List.setIfInBounds_toArray, List.set_cons_zero, List.set_cons_succ]
  refine' DA.Det.takeE (i := 10) (v := undef) rfl (fun _ => Iff.rfl) (by kernel_rfl) (by kernel_rfl) (by kernel_rfl) (DA.YS.store (f := _) rfl rfl ?rpa10) ?npa10
  case rpa10 =>
    intro a' L W he hL hd hS
    have hbx := hS.box0 (DA.getD_un hL)
    have hiq := hd ⟨8, .data⟩ (by simp) (by kernel_rfl)
    obtain ⟨z0, z1, z2, z3, y0, y1, y2, y3⟩ := row_facts4 hbx
    constructor
    · go_simp; rfl
    · exact SR.stored (by intro t ht; simp only [List.mem_cons, List.not_mem_nil, or_false] at ht; rcases ht with rfl | rfl | rfl <;> simp) (by decide) hL hiq hS (slot_val (he (.tmp 85) (by simp [Op.operands, Call.operands])) (by simp [undef, Act.eval])) Gb.set (DA.heap_set hbx 3 _) (fun t ht v h => ok.set t ht _ _ _ _ h)
  try simp only [Act.put, List.setIfInBounds_toArray, List.set_cons_zero, List.set_cons_succ]
  refine DA.Det.done (by kernel_rfl) (fun W hS => ?_) _
  obtain ⟨u, e85, hbx⟩ := hS.box1 rfl
  have e85' : (Value.slice Aa8 na8 ca8) = u := Option.some.inj e85
  subst e85'
  obtain ⟨v8, e8, A9, n9, c9, hv, hO⟩ := hS.row (tF 8 85 (g8 + 1) PF) (by simp) rfl
  have e8' : (Value.slice Aa8 na8 ca8) = v8 := Option.some.inj e8
  subst hv
  rw [← e8'] at hO
  have hbW := HB.out W hS.grow
  have hr9 := (hS.grow.block w.heap.size hlt0 (by omega)).trans hr4
  have hz9 := (hS.grow.block (w.heap.size + 1) (by omega) (by omega)).trans hz4
  have hs9 := (hS.grow.block g8 hg8 (by omega)).trans hs8
  have hszW : g8 < W.heap.size := Nat.lt_of_lt_of_le hg8 hS.grow.size
  clear hS e85 e8 e8' HB hr4 hz4 hs8 ho6 hg8 HCW HCP HWo HWn hlt0 hb0 ok
  go_upto_region 14 with fail
  obtain ⟨gb, ob, rfl, hgb, -⟩ := hb.2.2 (by omega)
  have HPR : Hid (∀ W, Below w.heap.size w W → RdB W (some ⟨gb, ob + i, none⟩) (j + 1 - i) ((b.drop i).take (j + 1 - i))) := Lib.hid fun W hW => RdB.sub (hb.step hW) (by omega) (by omega)
  generalize (b.drop i).take (j + 1 - i) = PC at *
  have ok2 : TrOK (w.heap.size + 1) [tB 8 95 (g8 + 1) PC, tB 10 7 (g8 + 1) PC] := tB_ok (by omega) (tB_ok (by omega) TrOK.nil)
  have hlt0 : g6 < W.heap.size := by omega
  have HB : Hid (∀ W', Gb (w.heap.size + 1) W W' → Below w.heap.size w W') := Lib.hid fun W' hG => hbW.trans (hG.below (by omega) (by omega))
  refine DA.wp_region (n := 11) (V := fun iop uop => match iop with | 0 => uop = .agg #[.int .i64 206, .string ⟨#[80, 97, 114, 116, 105, 97, 108, 32, 67, 111, 110, 116, 101, 110, 116]⟩, .int .i64 minor, .slice Aa8 na8 ca8] | 1 => uop = .slice (some ⟨gb, ob, none⟩) k e | 2 => uop = .pointer (some ⟨g8, 0, none⟩) | 3 => uop = .int .i64 (i : Int) | 4 => uop = .pointer (some ⟨g8, 1, none⟩) | 5 => uop = .int .i64 (j : Int) | 6 => uop = .int .i64 ((j : Int) + 1) | 7 => uop = .slice (some ⟨gb, ob + i, none⟩) (j + 1 - i) (e - i) | 8 => ∃ (A : Option Addr) (n c : Nat), uop = .slice A n c | 9 => uop = undef | 10 => ∃ (A : Option Addr) (n c : Nat), uop = .slice A n c | _ => uop = undef) (S := SR W (w.heap.size + 1) #[.int .i64 0, .string ⟨#[]⟩, .int .i64 0, .slice none 0 0] (fun _ => #[.int .i64 206, .string ⟨#[80, 97, 114, 116, 105, 97, 108, 32, 67, 111, 110, 116, 101, 110, 116]⟩, .int .i64 minor, .slice Aa8 na8 ca8]) 31 0 9 87 112 [tB 8 95 (g8 + 1) PC, tB 10 7 (g8 + 1) PC]) (by kernel_rfl) rfl (SR.start rfl hz9) ?_
  refine' DA.Det.takeE (i := 0) (v := _) rfl (fun _ => Iff.rfl) (by kernel_rfl) (by kernel_rfl) (by kernel_rfl) (DA.YS.pure rfl rfl ?rpb0 ?spb0) ?npb0
  case rpb0 => intro a' L W hS; obtain ⟨k0, k1, k2, k3, -⟩ := row_facts4 ((hS.grow.block g6 hlt0 (by omega)).trans hbx); go_simp; first | rfl | skip
  case spb0 => exact fun a' L W hL h => (SR.other ok2 (by intro t ht; simp only [List.mem_cons, List.not_mem_nil, or_false] at ht; rcases ht with rfl | rfl <;> simp) (by decide) (by simp) hL h (Below.refl _ _))
  try simp only [Act.put, List.setIfInBounds_toArray, List.set_cons_zero, List.set_cons_succ]
  refine' DA.Det.takeE (i := 1) (v := _) rfl (fun _ => Iff.rfl) (by kernel_rfl) (by kernel_rfl) (by kernel_rfl) (DA.YS.pure rfl rfl ?rpb1 ?spb1) ?npb1
  case rpb1 => intro a' L W hS; go_simp; first | rfl | skip
  case spb1 => exact fun a' L W hL h => (SR.other ok2 (by intro t ht; simp only [List.mem_cons, List.not_mem_nil, or_false] at ht; rcases ht with rfl | rfl <;> simp) (by decide) (by simp) hL h (Below.refl _ _))
  try simp only [Act.put, List.setIfInBounds_toArray, List.set_cons_zero, List.set_cons_succ]
  refine' DA.Det.takeE (i := 2) (v := _) rfl (fun _ => Iff.rfl) (by kernel_rfl) (by kernel_rfl) (by kernel_rfl) (DA.YS.pure rfl rfl ?rpb2 ?spb2) ?npb2
  case rpb2 => intro a' L W hS; go_simp; first | rfl | skip
  case spb2 => exact fun a' L W hL h => (SR.other ok2 (by intro t ht; simp only [List.mem_cons, List.not_mem_nil, or_false] at ht; rcases ht with rfl | rfl <;> simp) (by decide) (by simp) hL h (Below.refl _ _))
  try simp only [Act.put, List.setIfInBounds_toArray, List.set_cons_zero, List.set_cons_succ]
  refine' DA.Det.takeE (i := 3) (v := _) rfl (fun _ => Iff.rfl) (by kernel_rfl) (by kernel_rfl) (by kernel_rfl) (DA.YS.pure rfl rfl ?rpb3 ?spb3) ?npb3
  case rpb3 => intro a' L W hS; obtain ⟨k0, k1, -⟩ := row_facts2s ((hS.grow.block g8 hszW (by omega)).trans hs9); go_simp; first | rfl | skip
  case spb3 => exact fun a' L W hL h => (SR.other ok2 (by intro t ht; simp only [List.mem_cons, List.not_mem_nil, or_false] at ht; rcases ht with rfl | rfl <;> simp) (by decide) (by simp) hL h (Below.refl _ _))
  try simp only [Act.put, List.setIfInBounds_toArray, List.set_cons_zero, List.set_cons_succ]
  refine' DA.Det.takeE (i := 4) (v := _) rfl (fun _ => Iff.rfl) (by kernel_rfl) (by kernel_rfl) (by kernel_rfl) (DA.YS.pure rfl rfl ?rpb4 ?spb4) ?npb4
  case rpb4 => intro a' L W hS; go_simp; first | rfl | skip
  case spb4 => exact fun a' L W hL h => (SR.other ok2 (by intro t ht; simp only [List.mem_cons, List.not_mem_nil, or_false] at ht; rcases ht with rfl | rfl <;> simp) (by decide) (by simp) hL h (Below.refl _ _))
  try simp only [Act.put, List.setIfInBounds_toArray, List.set_cons_zero, List.set_cons_succ]
  refine' DA.Det.takeE (i := 5) (v := _) rfl (fun _ => Iff.rfl) (by kernel_rfl) (by kernel_rfl) (by kernel_rfl) (DA.YS.pure rfl rfl ?rpb5 ?spb5) ?npb5
  case rpb5 => intro a' L W hS; obtain ⟨k0, k1, -⟩ := row_facts2s ((hS.grow.block g8 hszW (by omega)).trans hs9); go_simp; first | rfl | skip
  case spb5 => exact fun a' L W hL h => (SR.other ok2 (by intro t ht; simp only [List.mem_cons, List.not_mem_nil, or_false] at ht; rcases ht with rfl | rfl <;> simp) (by decide) (by simp) hL h (Below.refl _ _))
  try simp only [Act.put, List.setIfInBounds_toArray, List.set_cons_zero, List.set_cons_succ]
  refine' DA.Det.takeE (i := 6) (v := _) rfl (fun _ => Iff.rfl) (by kernel_rfl) (by kernel_rfl) (by kernel_rfl) (DA.YS.pure rfl rfl ?rpb6 ?spb6) ?npb6
  case rpb6 => intro a' L W hS; go_simp; exact IntWalk.i64_in _ (by omega)
  case spb6 => exact fun a' L W hL h => (SR.other ok2 (by intro t ht; simp only [List.mem_cons, List.not_mem_nil, or_false] at ht; rcases ht with rfl | rfl <;> simp) (by decide) (by simp) hL h (Below.refl _ _))
  try simp only [Act.put, List.setIfInBounds_toArray, List.set_cons_zero, List.set_cons_succ]
  refine' DA.Det.takeE (i := 7) (v := _) rfl (fun _ => Iff.rfl) (by kernel_rfl) (by kernel_rfl) (by kernel_rfl) (DA.YS.pure rfl rfl ?rpb7 ?spb7) ?npb7
  case rpb7 => intro a' L W hS; go_simp; rw [if_pos (by omega), if_pos (by omega), if_neg (by omega)]
  case spb7 => exact fun a' L W hL h => (SR.other ok2 (by intro t ht; simp only [List.mem_cons, List.not_mem_nil, or_false] at ht; rcases ht with rfl | rfl <;> simp) (by decide) (by simp) hL h (Below.refl _ _))
  try simp only [Act.put, List.setIfInBounds_toArray, List.set_cons_zero, List.set_cons_succ]
  refine' DA.Det.takeL (i := 8) rfl ⟨_, none, 0, 0, rfl⟩ (by kernel_rfl) (by kernel_rfl) (by kernel_rfl) (callE (f := _) (args := _) rfl ?rpb8 ?cpb8) ?npb8
  case rpb8 => intro W; go_simp; constructor <;> rfl
  case cpb8 =>
    intro a' L W he hL hd hS
    refine (cloneB_own _ _ _ PC W (HPR.out W (HB.out W hS.grow)) (by omega)).mono ?_
    rintro e w9 ⟨A9, n9, c9, rfl, ho9, hb9⟩
    have hR9 : (tB 8 95 (g8 + 1) PC).R w9 (.slice A9 n9 c9) := ⟨A9, n9, c9, rfl, (ho9).mono (Nat.le_trans (show g8 + 1 ≤ _ from hszW) hS.grow.size)⟩
    exact ⟨_, rfl, ⟨A9, n9, c9, rfl⟩, SR.made (tB 8 95 (g8 + 1) PC) ok2 (by intro t ht; simp only [List.mem_cons, List.not_mem_nil, or_false] at ht; rcases ht with rfl | rfl; exact .inl rfl; exact .inr (by simp)) (by simp) (by simp) (by simp) hL hS hb9 hR9⟩
  rintro v8 ⟨Ab8, nb8, cb8, rfl⟩
  try simp only [Act.put, List.setIfInBounds_toArray, List.set_cons_zero, List.set_cons_succ]
  refine' DA.Det.takeE (i := 9) (v := undef) rfl (fun _ => Iff.rfl) (by kernel_rfl) (by kernel_rfl) (by kernel_rfl) (DA.YS.store (f := _) rfl rfl ?rpb9) ?npb9
  case rpb9 =>
    intro a' L W he hL hd hS
    have hbx := hS.box0 (DA.getD_un hL)
    have hiq := hd ⟨0, .data⟩ (by simp) (by kernel_rfl)
    obtain ⟨z0, z1, z2, z3, y0, y1, y2, y3⟩ := row_facts4 hbx
    constructor
    · go_simp; rfl
    · exact SR.stored (by intro t ht; simp only [List.mem_cons, List.not_mem_nil, or_false] at ht; rcases ht with rfl | rfl <;> simp) (by decide) hL hiq hS (slot_val (he (.tmp 87) (by simp [Op.operands, Call.operands])) (by simp [undef, Act.eval])) Gb.set4 (heap_set4 hbx) ok2.set4
  try simp only [Act.put, List.setIfInBounds_toArray, List.set_cons_zero, List.set_cons_succ]
  refine' DA.Det.takeL (i := 10) rfl ⟨_, none, 0, 0, rfl⟩ (by kernel_rfl) (by kernel_rfl) (by kernel_rfl) (pureE (v := _) rfl ?rpb10 ?cpb10) ?npb10
  case rpb10 => intro W; go_simp; first | rfl | skip
  case cpb10 =>
    intro a' L W he hL hd hS
    have hR8 := hS.see (t := tB 8 95 (g8 + 1) PC) (by simp) (hd ⟨8, .data⟩ (by simp) (by kernel_rfl)) (he (.tmp 95) (by simp [Op.operands, Call.operands])) (by simp [undef, Act.eval])
    obtain ⟨A8, n8, c8, e8, ho8⟩ := hR8
    have e8' : (Value.slice Ab8 nb8 cb8) = .slice A8 n8 c8 := e8
    refine ⟨⟨_, _, _, rfl⟩, SR.made (tB 10 7 (g8 + 1) PC) ok2 (by intro t ht; simp only [List.mem_cons, List.not_mem_nil, or_false] at ht; rcases ht with rfl | rfl; exact .inr (by simp); exact .inl rfl) (by simp) (by simp) (by simp) hL hS (Below.refl _ _) ⟨_, _, _, rfl, ?_⟩⟩
    rw [e8']; exact ho8
  rintro v10 ⟨Ab10, nb10, cb10, rfl⟩
  try simp only [Act.put, List.setIfInBounds_toArray, List.set_cons_zero, List.set_cons_succ]
  refine DA.Det.done (by kernel_rfl) (fun W hS => ?_) _
  obtain ⟨u, -, hbx9⟩ := hS.box1 rfl
  obtain ⟨v7, e7, A9, n9, c9, hv, hO7⟩ := hS.row (tB 10 7 (g8 + 1) PC) (by simp) rfl
  have e7' : (Value.slice Ab10 nb10 cb10) = v7 := Option.some.inj e7
  subst hv
  rw [← e7'] at hO7
  have hF9 := own_gb hO (by omega) hS.grow
  have hW := HB.out _ hS.grow
  obtain ⟨c0, c1, c2, c3, -⟩ := row_facts4 hbx9
  clear hS e7 e7' hbx9 HB hO
  go_wp2
  refine bodyPost_ret (v := .tuple #[.agg #[.int .i64 206, .string ⟨#[80, 97, 114, 116, 105, 97, 108, 32, 67, 111, 110, 116, 101, 110, 116]⟩, .int .i64 minor, .slice Aa8 na8 ca8], .slice Ab10 nb10 cb10]) (by simp [results, Tryz.results17, go_sem, c0, c1, c2, c3]) rfl ⟨_, _, _, _, _, _, by rw [HA.out]; rfl, ?_, ?_, hW⟩
  · rw [HA.out]; exact own_mono hF9 (by omega)
  · rw [HA.out]; exact own_mono hO7 (by omega)
end Go.Proofs.YtcaekfebnhedpaaGreatDoor
