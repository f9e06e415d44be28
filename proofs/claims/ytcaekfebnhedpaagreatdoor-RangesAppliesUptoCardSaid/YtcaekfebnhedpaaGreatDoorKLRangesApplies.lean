/- RangesApplies: for every input within the second form's bound the law answers true and leaves its arguments as they were. Condition: the bulk of the arguments at most 1048576. -/
import Derived.Test.YtcaekfebnhedpaaGreatDoorCards
import Derived.Test.YtcaekfebnhedpaaGreatDoorTie
import Derived.Test.YtcaekfebnhedpaaGreatDoorM44
import Derived.Test.YtcaekfebnhedpaaGreatDoorM45
import Derived.Test.YtcaekfebnhedpaaGreatDoorM46
import Derived.BigQuiet
import Derived.Deep.QuietTactic
import Derived.WalkKit
import Derived.ProofKit
import Derived.OpenShut
import Derived.JoinedCond
import Derived.Deep.DeepHandedRow
import Derived.Deep.DeepWitnessRowRef
import Derived.Lib.LaidTab
import Derived.Stop.LaidErr
import Derived.Lay
set_option linter.unusedVariables false
set_option linter.unusedSimpArgs false
set_option maxRecDepth 100000
namespace Go.Proofs.YtcaekfebnhedpaaGreatDoor.rangesApplies
open Go.ChangeShapes Go.WideShapes Go.ChangeAt Go.RowKit

set_option maxRecDepth 100000
/-- A response with fields of the call's own; the pair of a response and bytes. -/
def tR (i p Bs : Nat) (st : Int) (rs : List UInt8) (minor : Int) (l : List Fld) : Tr := ⟨i, p, fun W v => ∃ A n c, v = .agg #[.int .i64 st, .string (bs rs), .int .i64 minor, .slice A n c] ∧ OwnF W Bs (.slice A n c) l⟩
def tP (i p Bs : Nat) (st : Int) (rs : List UInt8) (minor : Int) (l : List Fld) (b : List UInt8) : Tr := ⟨i, p, fun W v => ∃ A n c Y k e, v = .tuple #[.agg #[.int .i64 st, .string (bs rs), .int .i64 minor, .slice A n c], .slice Y k e] ∧ OwnF W Bs (.slice A n c) l ∧ OwnB W Bs (.slice Y k e) b⟩
section
variable {i p Bs g : Nat} {tr : List Tr} {st minor : Int} {rs : List UInt8} {l : List Fld} {b : List UInt8}
@[simp] theorem tR_i : (tR i p Bs st rs minor l).i = i := rfl
@[simp] theorem tR_p : (tR i p Bs st rs minor l).p = p := rfl
@[simp] theorem tP_i : (tP i p Bs st rs minor l b).i = i := rfl
@[simp] theorem tP_p : (tP i p Bs st rs minor l b).p = p := rfl
theorem tB_q (h : TqOK 31 tr) : TqOK 31 (tB i p Bs b :: tr) :=
  h.cons (fun W W' v hb ⟨A, n, c, e, ho⟩ => ⟨A, n, c, e, ho.step hb⟩) (fun W g C u o v hg ⟨A, n, c, e, ho⟩ => ⟨A, n, c, e, own_setT ho hg (by decide) u⟩)
theorem tF_q (h : TqOK 31 tr) : TqOK 31 (tF i p Bs l :: tr) :=
  h.cons (fun W W' v hb ⟨A, n, c, e, ho⟩ => ⟨A, n, c, e, ho.step hb⟩) (fun W g C u o v hg ⟨A, n, c, e, ho⟩ => ⟨A, n, c, e, own_setT ho hg (by decide) u⟩)
theorem tR_q (h : TqOK 31 tr) : TqOK 31 (tR i p Bs st rs minor l :: tr) :=
  h.cons (fun W W' v hb ⟨A, n, c, e, ho⟩ => ⟨A, n, c, e, ho.step hb⟩) (fun W g C u o v hg ⟨A, n, c, e, ho⟩ => ⟨A, n, c, e, own_setT ho hg (by decide) u⟩)
theorem tP_q (h : TqOK 31 tr) : TqOK 31 (tP i p Bs st rs minor l b :: tr) :=
  h.cons (fun W W' v hb ⟨A, n, c, Y, k, e, h1, ho, hp⟩ => ⟨A, n, c, Y, k, e, h1, ho.step hb, hp.step hb⟩) (fun W g C u o v hg ⟨A, n, c, Y, k, e, h1, ho, hp⟩ => ⟨A, n, c, Y, k, e, h1, own_setT ho hg (by decide) u, own_setT hp hg (by decide) u⟩)
end
set_option maxHeartbeats 8000000 in
theorem walk (w : World) (ht : Tab w) (hM : MaxL w) (A : Option Addr) (n c : Nat) (q : List Fld) (hq : RdF w A n q) (hn : n + 1 ≤ 1048576) (hqf : ∀ f ∈ q, f.1.length ≤ 1048576 ∧ f.2.length ≤ 1048576) (hqs : Rg.sumF q ≤ 1048576)
    (st : Int) (rs : List UInt8) (minor : Int) (B : Option Addr) (m d : Nat) (l : List Fld) (hl : RdF w B m l) (hm : m + 3 ≤ 1048576) (hlf : ∀ f ∈ l, f.1.length ≤ 1048576 ∧ f.2.length ≤ 1048576) (hls : Rg.sumF l ≤ 1048576)
    (Y : Option Addr) (k e : Nat) (b : List UInt8) (hb : RdB w Y k b) (hk : k ≤ 1048576) (hke : k ≤ e) (hee : e ≤ maxLen) :
    Calls Tryz.prog 4 #[.slice A n c, respV st rs minor B m d, .slice Y k e] w fun x w' => x = .returned (.bool true) ∧ Below w.heap.size w w' := by
  unfold respV
  have hA := Lib.hid fun W hT hX => alive19_any W hT hX
  have hb0 := alloc_below w (.cells #[.int .i64 st, .string (bs rs), .int .i64 minor, .slice B m d] 31)
  have hr1 := heap_alloc_new w (.cells #[.int .i64 st, .string (bs rs), .int .i64 minor, .slice B m d] 31)
  have hql := hq.1
  have hll := hl.1
  have hbl := hb.1
  have hgj := Rg.get_sum q Rg.rngR
  have hgk := Rg.get_sum l Rg.ctR
  have hAL := applyL_len q st rs l b (by omega) (by omega)
  have HAP : Hid (∀ (A1 : Option Addr) (n1 c1 : Nat) (A2 : Option Addr) (n2 c2 : Nat) (Y2 : Option Addr) (k2 e2 : Nat) (W : World), Below w.heap.size w W → RdF W A1 n1 q → RdF W A2 n2 l → RdB W Y2 k2 b → k2 ≤ e2 → e2 ≤ maxLen →
      Calls Tryz.prog 17 #[.slice A1 n1 c1, .agg #[.int .i64 st, .string (bs rs), .int .i64 minor, .slice A2 n2 c2], .slice Y2 k2 e2] W fun x w' => ApOut W minor (Rg.applyL q st rs l b) x w') := Lib.hid fun A1 n1 c1 A2 n2 c2 Y2 k2 e2 W hW h1 h2 h3 h4 h5 =>
    apply_any A1 n1 c1 q st rs minor A2 n2 c2 l Y2 k2 e2 b W (tab_b ht hW) (maxl_b hM hW) h1 (by have := h1.1; omega) hqf (by omega) h2 (by have := h2.1; omega) hlf h3 (by have := h3.1; omega) h4 h5
  have HRA : Hid (∀ (W : World), Below w.heap.size w W →
      Calls Tryz.prog 18 #[.slice A n c, .agg #[.int .i64 st, .string (bs rs), .int .i64 minor, .slice B m d], .slice Y k e] W fun x w' => ApOut W minor (Rg.applyL q st rs l b) x w') := Lib.hid fun W hW =>
    rapply_any A n c q st rs minor B m d l Y k e b W (tab_b ht hW) (maxl_b hM hW) (hq.step hW) (by omega) hqf (by omega) (hl.step hW) (by omega) hlf (hb.step hW) (by omega) hke hee
  unfold ApOut at HAP HRA
  generalize Rg.applyL q st rs l b = RR at *
  obtain ⟨st2, rs2, l2, b2⟩ := RR
  unfold respV at HAP HRA
  dsimp only at HAP HRA hAL
  have hl2 : l2.length ≤ 1048576 := by omega
  have hb2 : b2.length ≤ 100000000 := hAL.2
  clear hAL hgj hgk
  have HSR2 : Hid (∀ (A1 : Option Addr) (n1 c1 : Nat) (A2 : Option Addr) (n2 c2 : Nat) (W : World), RdF W A1 n1 l2 → RdF W A2 n2 l2 → Calls Tryz.prog 19 #[.agg #[.int .i64 st2, .string (bs rs2), .int .i64 minor, .slice A1 n1 c1], .agg #[.int .i64 st2, .string (bs rs2), .int .i64 minor, .slice A2 n2 c2]] W fun x w' => x = .returned (.bool true) ∧ Below W.heap.size W w') := Lib.hid fun A1 n1 c1 A2 n2 c2 W h1 h2 => sameResponse_any st2 rs2 minor A1 A2 n1 c1 n2 c2 l2 W h1 h2 (by have := h1.1; omega) (by have := h2.1; omega)
  have HSB2 : Hid (∀ (A1 : Option Addr) (n1 c1 : Nat) (A2 : Option Addr) (n2 c2 : Nat) (W : World), RdB W A1 n1 b2 → RdB W A2 n2 b2 → Calls Tryz.prog 20 #[.slice A1 n1 c1, .slice A2 n2 c2] W fun x w' => x = .returned (.bool true) ∧ Below W.heap.size W w') := Lib.hid fun A1 n1 c1 A2 n2 c2 W h1 h2 => by
    have h := sameBytes_any A1 A2 n1 n2 c1 c2 b2 b2 W h1 h2 (by have := h1.1; omega) (by have := h2.1; omega)
    rw [show (b2 == b2) = true by simp] at h
    exact h
  have HSF : Hid (∀ (A1 : Option Addr) (n1 c1 : Nat) (W : World), Below w.heap.size w W → RdF W A1 n1 q → Calls Tryz.prog 21 #[.slice A1 n1 c1, .slice A n c] W fun x w' => x = .returned (.bool true) ∧ Below W.heap.size W w') := Lib.hid fun A1 n1 c1 W hW h1 => by
    have h := sameFields_any A1 A n1 n c1 c q q W h1 (hq.step hW) (by have := h1.1; omega) (by omega)
    rw [show (q == q) = true by simp] at h
    exact h
  have HSR1 : Hid (∀ (A1 : Option Addr) (n1 c1 : Nat) (W : World), Below w.heap.size w W → RdF W A1 n1 l → Calls Tryz.prog 19 #[.agg #[.int .i64 st, .string (bs rs), .int .i64 minor, .slice A1 n1 c1], .agg #[.int .i64 st, .string (bs rs), .int .i64 minor, .slice B m d]] W fun x w' => x = .returned (.bool true) ∧ Below W.heap.size W w') := Lib.hid fun A1 n1 c1 W hW h1 => sameResponse_any st rs minor A1 B n1 c1 m d l W h1 (hl.step hW) (by have := h1.1; omega) (by omega)
  clear hls hqs hqf hlf
  have HSB3 : Hid (∀ (A1 : Option Addr) (n1 c1 : Nat) (A2 : Option Addr) (n2 c2 : Nat) (W : World), RdB W A1 n1 (b ++ spareL) → RdB W A2 n2 (b ++ spareL) → Calls Tryz.prog 20 #[.slice A1 n1 c1, .slice A2 n2 c2] W fun x w' => x = .returned (.bool true) ∧ Below W.heap.size W w') := Lib.hid fun A1 n1 c1 A2 n2 c2 W h1 h2 => by
    have hs8 : (b ++ spareL).length = b.length + 8 := by rw [List.length_append]; rfl
    have h := sameBytes_any A1 A2 n1 n2 c1 c2 (b ++ spareL) (b ++ spareL) W h1 h2 (by have := h1.1; omega) (by have := h2.1; omega)
    rw [show ((b ++ spareL) == (b ++ spareL)) = true by simp] at h
    exact h
  have HSP : Hid (∀ W, Below w.heap.size w W → Calls Tryz.prog 16 #[.slice Y k e] W fun x w' => ∃ A' n' c', x = .returned (.slice A' n' c') ∧ OwnB w' W.heap.size (.slice A' n' c') (b ++ spareL) ∧ Below W.heap.size W w') := Lib.hid fun W hW => spare_any Y k e b W (hb.step hW) (by omega)
  have HPRE : Hid (∀ (W : World) (A1 : Option Addr) (n1 : Nat), RdB W A1 n1 (b ++ spareL) → n1 = k + 8 ∧ RdB W A1 k b) := Lib.hid fun W A1 n1 h => by
    have hs8 : (b ++ spareL).length = b.length + 8 := by rw [List.length_append]; rfl
    have hn1 : n1 = k + 8 := by have := h.1; omega
    refine ⟨hn1, hbl, by simp; omega, fun hk0 => ?_⟩
    obtain ⟨g, o, e1, e2, e3⟩ := h.2.2 (by omega)
    refine ⟨g, o, e1, e2, fun j u hu => e3 j u ?_⟩
    rw [List.map_append, List.getElem?_append_left (by exact lt_of_get? hu)]
    exact hu
  generalize b ++ spareL = BS at *
  go_enter Tryz.func4, Tryz.ntmps4
  go_upto_region 1 with fail
  generalize w.alloc (.cells #[.int .i64 st, .string (bs rs), .int .i64 minor, .slice B m d] 31) = w1 at *
  go_wp2_with fail
  refine (hA.out _ (tab_b ht hb0) (maxl_b hM hb0)).mono ?_
  rintro xx w2 ⟨rfl, hbq⟩
  replace hr1 := row_keep hr1 hbq
  replace hb0 := bnext hb0 hbq hb0.size
  clear hA hbq
  have hC := copyFields_own A n c q w2 (hq.step hb0) (by omega)
  go_wp2_with fail
  refine hC.mono ?_
  rintro xx w3 ⟨A3, n3, c3, rfl, hF3, hbq⟩
  clear hC
  replace hr1 := row_keep hr1 hbq
  replace hb0 := bnext hb0 hbq hb0.size
  replace hF3 := hF3.rd
  clear hbq
  obtain ⟨a0, a1, a2, a3, -⟩ := row_facts4 hr1
  have hC := copyResponse_own st rs minor B m d l w3 (hl.step hb0) (by omega)
  unfold respV at hC
  go_wp2_with fail
  refine hC.mono ?_
  rintro xx w4b ⟨A4, n4, c4, rfl, hF4, hbq⟩
  clear hC a0 a1 a2 a3
  replace hr1 := row_keep hr1 hbq
  replace hb0 := bnext hb0 hbq hb0.size
  replace hF3 := hF3.step hbq
  replace hF4 := hF4.rd
  have hal := alloc_below w4b (.cells #[.int .i64 st, .string (bs rs), .int .i64 minor, .slice A4 n4 c4] 31)
  have hr8 := heap_alloc_new w4b (.cells #[.int .i64 st, .string (bs rs), .int .i64 minor, .slice A4 n4 c4] 31)
  clear hbq
  go_upto_region 5 with fail
  replace hr1 := row_keep hr1 hal
  replace hF3 := hF3.step hal
  replace hF4 := hF4.step hal
  replace hb0 := bnext hb0 hal hb0.size
  have hg8 : w.heap.size < w4b.heap.size ∨ True := .inr trivial
  clear hal hg8
  generalize w4b.alloc (.cells #[.int .i64 st, .string (bs rs), .int .i64 minor, .slice A4 n4 c4] 31) = w4 at *
  generalize w4b.heap.size = g8 at *
  go_wp2_with fail
  refine (HSP.out _ hb0).mono ?_
  rintro xx w5 ⟨A5, n5, c5, rfl, hB5, hbq⟩
  replace hr1 := row_keep hr1 hbq
  replace hr8 := row_keep hr8 hbq
  replace hF3 := hF3.step hbq
  replace hF4 := hF4.step hbq
  replace hb0 := bnext hb0 hbq hb0.size
  clear hbq
  have hcap := hB5.capB
  obtain ⟨hn5, hB5p⟩ := HPRE.out _ _ _ hB5.rd
  replace hB5 := hB5.rd
  subst hn5
  obtain ⟨g5, o5, hA5, hg5, -⟩ := hB5.2.2 (by omega)
  subst hA5
  go_upto_region 6 with fail
  have HR1 : Hid (∀ W, Below w5.heap.size w5 W → W.heap[w.heap.size]? = some (.cells #[.int .i64 st, .string (bs rs), .int .i64 minor, .slice B m d] 31 (0, 0))) := Lib.hid fun W hW => row_keep hr1 hW
  have HR8 : Hid (∀ W, Below w5.heap.size w5 W → W.heap[g8]? = some (.cells #[.int .i64 st, .string (bs rs), .int .i64 minor, .slice A4 n4 c4] 31 (0, 0))) := Lib.hid fun W hW => row_keep hr8 hW
  have HB : Hid (∀ W, Below w5.heap.size w5 W → Below w.heap.size w W) := Lib.hid fun W hW => bnext hb0 hW hb0.size
  have hkc : (k : Int) ≤ (c5 : Int) := by omega
  have hz0 := hb0.size
  obtain ⟨Bs, hBse⟩ : ∃ Bs, Bs = w5.heap.size := ⟨_, rfl⟩
  have hBs : Bs ≤ w5.heap.size := by omega
  have hBsw : w.heap.size ≤ Bs := by omega
  clear hBse
  have okq : TqOK 31 [tP 6 29 Bs st2 rs2 minor l2 b2, tP 7 22 Bs st2 rs2 minor l2 b2, tR 8 30 Bs st2 rs2 minor l2, tB 9 31 Bs b2, tB 12 11 Bs b2] := tP_q (tP_q (tR_q (tB_q (tB_q TqOK.nil))))
  refine DA.wp_region (n := 13) (V := fun iop uop => match iop with | 0 => uop = .slice A3 n3 c3 | 1 => uop = .agg #[.int .i64 st, .string (bs rs), .int .i64 minor, .slice A4 n4 c4] | 2 => uop = .slice (some ⟨g5, o5, none⟩) (k + 8) c5 | 3 => uop = .slice Y k e | 4 => uop = .int .i64 (k : Int) | 5 => uop = .slice (some ⟨g5, o5, none⟩) k c5 | 6 => ∃ (A : Option Addr) (n c : Nat) (Y : Option Addr) (k e : Nat), uop = .tuple #[.agg #[.int .i64 st2, .string (bs rs2), .int .i64 minor, .slice A n c], .slice Y k e] | 7 => ∃ (A : Option Addr) (n c : Nat) (Y : Option Addr) (k e : Nat), uop = .tuple #[.agg #[.int .i64 st2, .string (bs rs2), .int .i64 minor, .slice A n c], .slice Y k e] | 8 => ∃ (A : Option Addr) (n c : Nat), uop = .agg #[.int .i64 st2, .string (bs rs2), .int .i64 minor, .slice A n c] | 9 => ∃ (A : Option Addr) (n c : Nat), uop = .slice A n c | 10 => ∃ g : Nat, uop = .pointer (some ⟨g, 0, none⟩) | 11 => uop = undef | 12 => ∃ (A : Option Addr) (n c : Nat), uop = .slice A n c | _ => uop = undef) (S := SQ w5 63 ⟨10, 10, 11, 8, 30, #[.int .i64 0, .string ⟨#[]⟩, .int .i64 0, .slice none 0 0], fun v => v.cells, 31⟩ [tP 6 29 Bs st2 rs2 minor l2 b2, tP 7 22 Bs st2 rs2 minor l2 b2, tR 8 30 Bs st2 rs2 minor l2, tB 9 31 Bs b2, tB 12 11 Bs b2]) (by kernel_rfl) rfl (SQ.start rfl) ?_
  refine' DA.Det.takeE (i := 0) (v := _) rfl (fun _ => Iff.rfl) (by kernel_rfl) (by kernel_rfl) (by kernel_rfl) (DA.YS.pure rfl rfl ?rpya_0 ?spya_0) ?npya_0
  case rpya_0 => intro a' L W hS; go_simp; first | rfl | skip
  case spya_0 => exact fun a' L W hL h => (SQ.other okq (by intro t ht; simp only [List.mem_cons, List.not_mem_nil, or_false] at ht; rcases ht with rfl | rfl | rfl | rfl | rfl <;> simp) (by decide) (by decide) (by simp) (by simp) hL h (Below.refl _ _))
  try simp only [Act.put, List.setIfInBounds_toArray, List.set_cons_zero, List.set_cons_succ]
  refine' DA.Det.takeE (i := 1) (v := _) rfl (fun _ => Iff.rfl) (by kernel_rfl) (by kernel_rfl) (by kernel_rfl) (DA.YS.pure rfl rfl ?rpya_1 ?spya_1) ?npya_1
  case rpya_1 => intro a' L W hS; obtain ⟨k0, k1, k2, k3, -⟩ := row_facts4 (HR8.out W hS.grow); go_simp; first | rfl | skip
  case spya_1 => exact fun a' L W hL h => (SQ.other okq (by intro t ht; simp only [List.mem_cons, List.not_mem_nil, or_false] at ht; rcases ht with rfl | rfl | rfl | rfl | rfl <;> simp) (by decide) (by decide) (by simp) (by simp) hL h (Below.refl _ _))
  try simp only [Act.put, List.setIfInBounds_toArray, List.set_cons_zero, List.set_cons_succ]
  refine' DA.Det.takeE (i := 2) (v := _) rfl (fun _ => Iff.rfl) (by kernel_rfl) (by kernel_rfl) (by kernel_rfl) (DA.YS.pure rfl rfl ?rpya_2 ?spya_2) ?npya_2
  case rpya_2 => intro a' L W hS; go_simp; first | rfl | skip
  case spya_2 => exact fun a' L W hL h => (SQ.other okq (by intro t ht; simp only [List.mem_cons, List.not_mem_nil, or_false] at ht; rcases ht with rfl | rfl | rfl | rfl | rfl <;> simp) (by decide) (by decide) (by simp) (by simp) hL h (Below.refl _ _))
  try simp only [Act.put, List.setIfInBounds_toArray, List.set_cons_zero, List.set_cons_succ]
  refine' DA.Det.takeE (i := 3) (v := _) rfl (fun _ => Iff.rfl) (by kernel_rfl) (by kernel_rfl) (by kernel_rfl) (DA.YS.pure rfl rfl ?rpya_3 ?spya_3) ?npya_3
  case rpya_3 => intro a' L W hS; go_simp; first | rfl | skip
  case spya_3 => exact fun a' L W hL h => (SQ.other okq (by intro t ht; simp only [List.mem_cons, List.not_mem_nil, or_false] at ht; rcases ht with rfl | rfl | rfl | rfl | rfl <;> simp) (by decide) (by decide) (by simp) (by simp) hL h (Below.refl _ _))
  try simp only [Act.put, List.setIfInBounds_toArray, List.set_cons_zero, List.set_cons_succ]
  refine' DA.Det.takeE (i := 4) (v := _) rfl (fun _ => Iff.rfl) (by kernel_rfl) (by kernel_rfl) (by kernel_rfl) (DA.YS.pure rfl rfl ?rpya_4 ?spya_4) ?npya_4
  case rpya_4 => intro a' L W hS; go_simp; first | rfl | skip
  case spya_4 => exact fun a' L W hL h => (SQ.other okq (by intro t ht; simp only [List.mem_cons, List.not_mem_nil, or_false] at ht; rcases ht with rfl | rfl | rfl | rfl | rfl <;> simp) (by decide) (by decide) (by simp) (by simp) hL h (Below.refl _ _))
  try simp only [Act.put, List.setIfInBounds_toArray, List.set_cons_zero, List.set_cons_succ]
  refine' DA.Det.takeE (i := 5) (v := _) rfl (fun _ => Iff.rfl) (by kernel_rfl) (by kernel_rfl) (by kernel_rfl) (DA.YS.pure rfl rfl ?rpya_5 ?spya_5) ?npya_5
  case rpya_5 => intro a' L W hS; go_simp; first | rfl | skip
  case spya_5 => exact fun a' L W hL h => (SQ.other okq (by intro t ht; simp only [List.mem_cons, List.not_mem_nil, or_false] at ht; rcases ht with rfl | rfl | rfl | rfl | rfl <;> simp) (by decide) (by decide) (by simp) (by simp) hL h (Below.refl _ _))
  try simp only [Act.put, List.setIfInBounds_toArray, List.set_cons_zero, List.set_cons_succ]
  refine' DA.Det.takeL (i := 6) rfl ⟨_, none, 0, 0, none, 0, 0, rfl⟩ (by kernel_rfl) (by kernel_rfl) (by kernel_rfl) (callE (f := _) (args := _) rfl ?rpya_6 ?cpya_6) ?npya_6
  case rpya_6 => intro W; go_simp; constructor <;> rfl
  case cpya_6 =>
    intro a' L W he hL hd hS
    refine (HAP.out A3 n3 c3 A4 n4 c4 _ k c5 W (HB.out W hS.grow) (hF3.step hS.grow) (hF4.step hS.grow) (hB5p.step hS.grow) (by omega) hcap.2).mono ?_
    rintro xx w9 ⟨A9, n9, c9, Y9, k9, e9, rfl, ho9, hp9, hb9⟩
    exact ⟨_, rfl, ⟨A9, n9, c9, Y9, k9, e9, rfl⟩, SQ.made (tP 6 29 Bs st2 rs2 minor l2 b2) okq (by intro t ht; simp only [List.mem_cons, List.not_mem_nil, or_false] at ht; rcases ht with rfl | rfl | rfl | rfl | rfl; exact .inl rfl; exact .inr (by simp); exact .inr (by simp); exact .inr (by simp); exact .inr (by simp)) (by simp) (by simp) (by simp) (by simp) (by simp) hL hS hb9 ⟨A9, n9, c9, Y9, k9, e9, rfl, ho9.mono (Nat.le_trans hBs hS.grow.size), hp9.mono (Nat.le_trans hBs hS.grow.size)⟩⟩
  rintro v6 ⟨Aya_6, nya_6, cya_6, Yya_6, kya_6, eya_6, rfl⟩
  try simp only [Act.put, List.setIfInBounds_toArray, List.set_cons_zero, List.set_cons_succ]
  refine' DA.Det.takeL (i := 7) rfl ⟨_, none, 0, 0, none, 0, 0, rfl⟩ (by kernel_rfl) (by kernel_rfl) (by kernel_rfl) (pureE (v := _) rfl ?rpya_7 ?cpya_7) ?npya_7
  case rpya_7 => intro W; go_simp; first | rfl | skip
  case cpya_7 =>
    intro a' L W he hL hd hS
    obtain ⟨x1, y1, z1, x2, y2, z2, q1, o1, o2⟩ := hS.see (t := tP 6 29 Bs st2 rs2 minor l2 b2) (by simp) (hd ⟨6, .data⟩ (by simp) (by kernel_rfl)) (he (.tmp 29) (by simp [Op.operands, Call.operands])) (by simp [undef, Act.eval])
    have q1' : (Value.tuple #[.agg #[.int .i64 st2, .string (bs rs2), .int .i64 minor, .slice Aya_6 nya_6 cya_6], .slice Yya_6 kya_6 eya_6]) = .tuple #[.agg #[.int .i64 st2, .string (bs rs2), .int .i64 minor, .slice x1 y1 z1], .slice x2 y2 z2] := q1
    simp only [Value.slice.injEq, Value.agg.injEq, Value.tuple.injEq, Array.mk.injEq, List.cons.injEq, and_true, true_and] at q1'
    obtain ⟨⟨rfl, rfl, rfl⟩, rfl, rfl, rfl⟩ := q1'
    exact ⟨⟨_, _, _, _, _, _, rfl⟩, SQ.made (tP 7 22 Bs st2 rs2 minor l2 b2) okq (by intro t ht; simp only [List.mem_cons, List.not_mem_nil, or_false] at ht; rcases ht with rfl | rfl | rfl | rfl | rfl; exact .inr (by simp); exact .inl rfl; exact .inr (by simp); exact .inr (by simp); exact .inr (by simp)) (by simp) (by simp) (by simp) (by simp) (by simp) hL hS (Below.refl _ _) ⟨_, _, _, _, _, _, rfl, o1, o2⟩⟩
  rintro v7 ⟨Aya_7, nya_7, cya_7, Yya_7, kya_7, eya_7, rfl⟩
  try simp only [Act.put, List.setIfInBounds_toArray, List.set_cons_zero, List.set_cons_succ]
  refine' DA.Det.takeL (i := 8) rfl ⟨_, none, 0, 0, rfl⟩ (by kernel_rfl) (by kernel_rfl) (by kernel_rfl) (pureE (v := _) rfl ?rpya_8 ?cpya_8) ?npya_8
  case rpya_8 => intro W; go_simp; first | rfl | skip
  case cpya_8 =>
    intro a' L W he hL hd hS
    obtain ⟨x1, y1, z1, x2, y2, z2, q1, o1, o2⟩ := hS.see (t := tP 7 22 Bs st2 rs2 minor l2 b2) (by simp) (hd ⟨7, .data⟩ (by simp) (by kernel_rfl)) (he (.tmp 22) (by simp [Op.operands, Call.operands])) (by simp [undef, Act.eval])
    have q1' : (Value.tuple #[.agg #[.int .i64 st2, .string (bs rs2), .int .i64 minor, .slice Aya_7 nya_7 cya_7], .slice Yya_7 kya_7 eya_7]) = .tuple #[.agg #[.int .i64 st2, .string (bs rs2), .int .i64 minor, .slice x1 y1 z1], .slice x2 y2 z2] := q1
    simp only [Value.slice.injEq, Value.agg.injEq, Value.tuple.injEq, Array.mk.injEq, List.cons.injEq, and_true, true_and] at q1'
    obtain ⟨⟨rfl, rfl, rfl⟩, rfl, rfl, rfl⟩ := q1'
    exact ⟨⟨_, _, _, rfl⟩, SQ.made (tR 8 30 Bs st2 rs2 minor l2) okq (by intro t ht; simp only [List.mem_cons, List.not_mem_nil, or_false] at ht; rcases ht with rfl | rfl | rfl | rfl | rfl; exact .inr (by simp); exact .inr (by simp); exact .inl rfl; exact .inr (by simp); exact .inr (by simp)) (by simp) (by simp) (by simp) (by simp) (by simp) hL hS (Below.refl _ _) ⟨_, _, _, rfl, o1⟩⟩
  rintro v8 ⟨Aya_8, nya_8, cya_8, rfl⟩
  try simp only [Act.put, List.setIfInBounds_toArray, List.set_cons_zero, List.set_cons_succ]
  refine' DA.Det.takeL (i := 9) rfl ⟨_, none, 0, 0, rfl⟩ (by kernel_rfl) (by kernel_rfl) (by kernel_rfl) (pureE (v := _) rfl ?rpya_9 ?cpya_9) ?npya_9
  case rpya_9 => intro W; go_simp; first | rfl | skip
  case cpya_9 =>
    intro a' L W he hL hd hS
    obtain ⟨x1, y1, z1, x2, y2, z2, q1, o1, o2⟩ := hS.see (t := tP 7 22 Bs st2 rs2 minor l2 b2) (by simp) (hd ⟨7, .data⟩ (by simp) (by kernel_rfl)) (he (.tmp 22) (by simp [Op.operands, Call.operands])) (by simp [undef, Act.eval])
    have q1' : (Value.tuple #[.agg #[.int .i64 st2, .string (bs rs2), .int .i64 minor, .slice Aya_7 nya_7 cya_7], .slice Yya_7 kya_7 eya_7]) = .tuple #[.agg #[.int .i64 st2, .string (bs rs2), .int .i64 minor, .slice x1 y1 z1], .slice x2 y2 z2] := q1
    simp only [Value.slice.injEq, Value.agg.injEq, Value.tuple.injEq, Array.mk.injEq, List.cons.injEq, and_true, true_and] at q1'
    obtain ⟨⟨rfl, rfl, rfl⟩, rfl, rfl, rfl⟩ := q1'
    exact ⟨⟨_, _, _, rfl⟩, SQ.made (tB 9 31 Bs b2) okq (by intro t ht; simp only [List.mem_cons, List.not_mem_nil, or_false] at ht; rcases ht with rfl | rfl | rfl | rfl | rfl; exact .inr (by simp); exact .inr (by simp); exact .inr (by simp); exact .inl rfl; exact .inr (by simp)) (by simp) (by simp) (by simp) (by simp) (by simp) hL hS (Below.refl _ _) ⟨_, _, _, rfl, o2⟩⟩
  rintro v9 ⟨Aya_9, nya_9, cya_9, rfl⟩
  try simp only [Act.put, List.setIfInBounds_toArray, List.set_cons_zero, List.set_cons_succ]
  refine' DA.Det.takeL (i := 10) rfl ⟨_, 0, rfl⟩ (by kernel_rfl) (by kernel_rfl) (by kernel_rfl) (DA.YS.make (v := fun W => .pointer (some ⟨W.heap.size, 0, none⟩)) (f := fun W => W.alloc (.cells #[.int .i64 0, .string ⟨#[]⟩, .int .i64 0, .slice none 0 0] 31)) rfl ?rpya_10 ?cpya_10) ?npya_10
  case rpya_10 => intro W; go_simp; first | rfl | skip
  case cpya_10 =>
    intro a' L W hL hS
    exact ⟨⟨_, rfl⟩, SQ.boxed okq (by intro t ht; simp only [List.mem_cons, List.not_mem_nil, or_false] at ht; rcases ht with rfl | rfl | rfl | rfl | rfl <;> simp) (by simp) (by simp) (by simp) hL hS⟩
  rintro v10 ⟨gya_, rfl⟩
  try simp only [Act.put, List.setIfInBounds_toArray, List.set_cons_zero, List.set_cons_succ]
  refine' DA.Det.takeE (i := 11) (v := undef) rfl (fun _ => Iff.rfl) (by kernel_rfl) (by kernel_rfl) (by kernel_rfl) (.inl ⟨rfl, ?rpya_11⟩) ?npya_11
  case rpya_11 =>
    intro a' L W he hL hd hS
    have h10 := hd ⟨10, .data⟩ (by simp) (by kernel_rfl)
    have h8 := hd ⟨8, .data⟩ (by simp) (by kernel_rfl)
    obtain ⟨hg1, hg2, hg3⟩ := hS.seebox (g := gya_) h10 (DA.getD_un hL) (he (.tmp 10) (by simp [Op.operands, Call.operands]))
    obtain ⟨z0, z1, z2, z3, y0, y1, y2, y3⟩ := row_facts4 hg3
    have hf := SQ.stored (v := undef) (u0 := .int .i64 st2) (u1 := .string (bs rs2)) (u2 := .int .i64 minor) (u3 := .slice Aya_8 nya_8 cya_8) okq (by intro t ht; simp only [List.mem_cons, List.not_mem_nil, or_false] at ht; rcases ht with rfl | rfl | rfl | rfl | rfl <;> simp) (by simp) (by simp) hL h10 h8 hS rfl rfl (slot_val (he (.tmp 30) (by simp [Op.operands, Call.operands])) (by simp [undef, Act.eval])) (slot_val (he (.tmp 10) (by simp [Op.operands, Call.operands])) (by simp [undef, Act.eval]))
    exact DA.runs_skip (by first | (go_simp; done) | (go_simp; rfl)) rfl hf
  try simp only [Act.put, List.setIfInBounds_toArray, List.set_cons_zero, List.set_cons_succ]
  refine' DA.Det.takeL (i := 12) rfl ⟨_, none, 0, 0, rfl⟩ (by kernel_rfl) (by kernel_rfl) (by kernel_rfl) (pureE (v := _) rfl ?rpya_12 ?cpya_12) ?npya_12
  case rpya_12 => intro W; go_simp; first | rfl | skip
  case cpya_12 =>
    intro a' L W he hL hd hS
    obtain ⟨x2, y2, z2, q1, o2⟩ := hS.see (t := tB 9 31 Bs b2) (by simp) (hd ⟨9, .data⟩ (by simp) (by kernel_rfl)) (he (.tmp 31) (by simp [Op.operands, Call.operands])) (by simp [undef, Act.eval])
    have q1' : (Value.slice Aya_9 nya_9 cya_9) = .slice x2 y2 z2 := q1
    simp only [Value.slice.injEq, Value.agg.injEq, Value.tuple.injEq, Array.mk.injEq, List.cons.injEq, and_true, true_and] at q1'
    obtain ⟨rfl, rfl, rfl⟩ := q1'
    exact ⟨⟨_, _, _, rfl⟩, SQ.made (tB 12 11 Bs b2) okq (by intro t ht; simp only [List.mem_cons, List.not_mem_nil, or_false] at ht; rcases ht with rfl | rfl | rfl | rfl | rfl; exact .inr (by simp); exact .inr (by simp); exact .inr (by simp); exact .inr (by simp); exact .inl rfl) (by simp) (by simp) (by simp) (by simp) (by simp) hL hS (Below.refl _ _) ⟨_, _, _, rfl, o2⟩⟩
  rintro v12 ⟨Aya_12, nya_12, cya_12, rfl⟩
  try simp only [Act.put, List.setIfInBounds_toArray, List.set_cons_zero, List.set_cons_succ]
  refine DA.Det.done (by kernel_rfl) (fun W hS => ?_) _
  obtain ⟨g9, e12, hg1, hg2, -, hbx5⟩ := hS.box rfl
  obtain ⟨u8, e56, hbx⟩ := hbx5 rfl
  have e12' : (Value.pointer (some ⟨gya_, 0, none⟩)) = .pointer (some ⟨g9, 0, none⟩) := Option.some.inj e12
  obtain rfl : gya_ = g9 := by simpa using e12'
  have e56' : (Value.agg #[.int .i64 st2, .string (bs rs2), .int .i64 minor, .slice Aya_8 nya_8 cya_8]) = u8 := Option.some.inj e56
  subst e56'
  have hbx : W.heap[gya_]? = some (.cells #[.int .i64 st2, .string (bs rs2), .int .i64 minor, .slice Aya_8 nya_8 cya_8] 31 (0, 0)) := hbx
  obtain ⟨v8, e8, x1, y1, z1, q8, o8⟩ := hS.row (tR 8 30 Bs st2 rs2 minor l2) (by simp) rfl
  have e8' : (Value.agg #[.int .i64 st2, .string (bs rs2), .int .i64 minor, .slice Aya_8 nya_8 cya_8]) = v8 := Option.some.inj e8
  subst q8
  simp only [Value.agg.injEq, Array.mk.injEq, List.cons.injEq, Value.slice.injEq, and_true, true_and] at e8'
  obtain ⟨rfl, rfl, rfl⟩ := e8'
  obtain ⟨v12, e13, x2, y2, z2, q12, o12⟩ := hS.row (tB 12 11 Bs b2) (by simp) rfl
  have e13' : (Value.slice Aya_12 nya_12 cya_12) = v12 := Option.some.inj e13
  subst q12
  simp only [Value.slice.injEq] at e13'
  obtain ⟨rfl, rfl, rfl⟩ := e13'
  have hgrow := hS.grow
  clear hS e12 e12' e56 e8 e13 hbx5 okq hg1 hg2
  have hr1W := HR1.out W hgrow
  have hr8W := HR8.out W hgrow
  replace hF3 := hF3.step hgrow
  replace hF4 := hF4.step hgrow
  replace hB5 := hB5.step hgrow
  replace hb0 := HB.out W hgrow
  replace o8 := o8.rd
  replace o12 := o12.rd
  clear HR1 HR8 HB hgrow hr1 hr8 HAP hB5p hcap hkc hg5
  obtain ⟨a0, a1, a2, a3, -⟩ := row_facts4 hr1W
  go_wp2_with fail
  refine (HRA.out W hb0).mono ?_
  rintro xx w7b ⟨A7, n7, c7, Y7, k7, e7, rfl, hF7, hB7, hbq⟩
  clear HRA a0 a1 a2 a3
  replace hr1W := row_keep hr1W hbq
  replace hr8W := row_keep hr8W hbq
  replace hbx := row_keep hbx hbq
  replace hF3 := hF3.step hbq
  replace hF4 := hF4.step hbq
  replace hB5 := hB5.step hbq
  replace o8 := o8.step hbq
  replace o12 := o12.step hbq
  replace hb0 := bnext hb0 hbq hb0.size
  replace hF7 := hF7.rd
  replace hB7 := hB7.rd
  have hal := alloc_below w7b (.cells #[.int .i64 st2, .string (bs rs2), .int .i64 minor, .slice A7 n7 c7] 31)
  have hry := heap_alloc_new w7b (.cells #[.int .i64 st2, .string (bs rs2), .int .i64 minor, .slice A7 n7 c7] 31)
  clear hbq
  go_upto_region 8 with fail
  replace hr1W := row_keep hr1W hal
  replace hr8W := row_keep hr8W hal
  replace hbx := row_keep hbx hal
  replace hF3 := hF3.step hal
  replace hF4 := hF4.step hal
  replace hB5 := hB5.step hal
  replace o8 := o8.step hal
  replace o12 := o12.step hal
  replace hF7 := hF7.step hal
  replace hB7 := hB7.step hal
  replace hb0 := bnext hb0 hal hb0.size
  clear hal
  generalize w7b.alloc (.cells #[.int .i64 st2, .string (bs rs2), .int .i64 minor, .slice A7 n7 c7] 31) = w7 at *
  generalize w7b.heap.size = g7 at *
  obtain ⟨s0, s1, s2, s3, -⟩ := row_facts4 hbx
  obtain ⟨y0, y1, y2, y3, -⟩ := row_facts4 hry
  go_wp2_with fail
  refine (HSR2.out _ _ _ _ _ _ w7 o8 hF7).mono ?_
  rintro xx w8 ⟨rfl, hbq⟩
  replace hr1W := row_keep hr1W hbq
  replace hr8W := row_keep hr8W hbq
  replace hF3 := hF3.step hbq
  replace hF4 := hF4.step hbq
  replace hB5 := hB5.step hbq
  replace o12 := o12.step hbq
  replace hB7 := hB7.step hbq
  replace hb0 := bnext hb0 hbq hb0.size
  clear hbq s0 s1 s2 s3 y0 y1 y2 y3 hbx hry o8 hF7 HSR2
  go_wp2_with fail
  refine (HSB2.out _ _ _ _ _ _ w8 o12 hB7).mono ?_
  rintro xx w9 ⟨rfl, hbq⟩
  replace hr1W := row_keep hr1W hbq
  replace hr8W := row_keep hr8W hbq
  replace hF3 := hF3.step hbq
  replace hF4 := hF4.step hbq
  replace hB5 := hB5.step hbq
  replace hb0 := bnext hb0 hbq hb0.size
  clear hbq o12 hB7 HSB2
  go_wp2_with fail
  refine (HSF.out _ _ _ w9 hb0 hF3).mono ?_
  rintro xx w10 ⟨rfl, hbq⟩
  replace hr1W := row_keep hr1W hbq
  replace hr8W := row_keep hr8W hbq
  replace hF4 := hF4.step hbq
  replace hB5 := hB5.step hbq
  replace hb0 := bnext hb0 hbq hb0.size
  clear hbq hF3 HSF
  obtain ⟨s0, s1, s2, s3, -⟩ := row_facts4 hr8W
  obtain ⟨y0, y1, y2, y3, -⟩ := row_facts4 hr1W
  go_wp2_with fail
  refine (HSR1.out _ _ _ w10 hb0 hF4).mono ?_
  rintro xx w11 ⟨rfl, hbq⟩
  replace hB5 := hB5.step hbq
  replace hb0 := bnext hb0 hbq hb0.size
  clear hbq hF4 HSR1 s0 s1 s2 s3 y0 y1 y2 y3 hr1W hr8W
  go_wp2_with fail
  refine (HSP.out w11 hb0).mono ?_
  rintro xx w12 ⟨A12, n12, c12, rfl, hB12, hbq⟩
  replace hB5 := hB5.step hbq
  replace hb0 := bnext hb0 hbq hb0.size
  replace hB12 := hB12.rd
  clear hbq HSP
  go_wp2_with fail
  refine (HSB3.out _ _ _ _ _ _ w12 hB5 hB12).mono ?_
  rintro xx w13 ⟨rfl, hbq⟩
  replace hb0 := bnext hb0 hbq hb0.size
  go_wp2
  go_ret
  exact ⟨rfl, hb0⟩

theorem tab_of {W : World} (h : laidMet Tryz.prog Rows.rangesAppliesUptoRow.laid W) : Tab W :=
  Lib.tabIs_of_head (t := 167) (e := 137) (n := 20) (g := 2) (by kernel_rfl) (by kernel_rfl) (by kernel_rfl) (by kernel_rfl) (by kernel_rfl) (by kernel_rfl) ((h).tail).tail
theorem own : ownKnob Tryz.prog.godebug = none := by kernel_rfl
theorem contract (H : Type) (enc : TypeId × Value → H) (W : World) (base : Nat) (args : Array Value) (ds gs : List (DataW H)) (before : List MemPlace)
    (hval : ∀ (j : Nat) t v, Tryz.f4.params[j]? = some t → args[j]? = some v → Value.okWide Tryz.prog W .any base t v)
    (hW : DataW.Whole enc Tryz.prog Tryz.f4.params.toList Rows.rangesAppliesSpec.vars false W args.toList ds gs before) (hk : Rows.uptoSmall H (ds ++ gs) = true) (htab : Tab W) (hmax : MaxL W) :
    Calls Tryz.prog 4 args W fun e W' => ∃ v, e = .returned v ∧ Rows.rangesAppliesSpec.post enc Tryz.prog Tryz.f4 false true false false W args v W' := by
  have hW' := hW
  obtain ⟨p, q, hA0, hV, rfl, hfz, hnd⟩ := hW
  have hA : DataW.TrodAll enc Tryz.prog W 0 (fun _ => true) true Tryz.f4.params.toList args.toList ds p := hA0
  rw [Tryz.params4] at hA hval
  obtain ⟨v0, vs0, d0, ds0, p0, q0, hargs, rfl, rfl, h0, r0⟩ := trodAll_cons hA
  obtain ⟨v1, vs1, d1, ds1, p1, q1, rfl, rfl, rfl, h1, r1⟩ := trodAll_cons r0
  obtain ⟨v2, vs2, d2, ds2, p2, q2, rfl, rfl, rfl, h2, r2⟩ := trodAll_cons r1
  obtain ⟨rfl, rfl, rfl⟩ := trodAll_nil r2
  obtain rfl : args = #[v0, v1, v2] := by cases args; simp_all
  obtain ⟨rfl, rfl⟩ := trodVars_none hV
  have hall := bulks.bound hk
  simp only [List.append_nil, Rows.uptoBulkAll] at hall
  have hb0 : Rows.uptoBulk d0 ≤ 1048576 := by omega
  have hb1 : Rows.uptoBulk d1 ≤ 1048576 := by omega
  have hb2 : Rows.uptoBulk d2 ≤ 1048576 := by omega
  clear hall
  obtain ⟨A0, n0, c0, l0, rfl, hr0, hn0, hf0, hc0, hd0, hs0⟩ := opFS (hval 0 29 v0 rfl rfl) h0 hb0
  obtain ⟨st1, rs1, x1, A1, n1, c1, l1, rfl, hr1, hn1, hf1, hc1, hd1, hs1, hu1, hv1⟩ := opRespS (hval 1 31 v1 rfl rfl) h1 hb1
  obtain ⟨Y2, k2, y2, b2, rfl, hr2, hn2, hc2, hd2⟩ := opBytesA (hval 2 32 v2 rfl rfl) h2 hb2
  clear hA0
  refine (walk W htab hmax A0 n0 c0 l0 hr0 hn0 hf0 hs0 st1 rs1 x1 A1 n1 c1 l1 hr1 hn1 hf1 hs1 Y2 k2 y2 b2 hr2 hn2 hc2 hd2).mono fun e W' ⟨he, hg⟩ => ?_
  subst he
  exact ⟨_, rfl, post_of_below (pa := p0 ++ (p1 ++ (p2 ++ ([])))) (pv := []) hW' (fun _ _ _ => (trodAll_cons_mk (shut_bool Tryz.underlying4 _) trodAll_mk0)) (fun sp hsp => (trodAll_cons_mk (arg_stays laidOut (by kernel_rfl) (of_decide_eq_true (by kernel_rfl)) h0 hg (fun x hx => hW'.lt x (by simp [hx])) sp (fun x hx => hsp x (by simp [hx]))) (trodAll_cons_mk (arg_stays laidOut (by kernel_rfl) (of_decide_eq_true (by kernel_rfl)) h1 hg (fun x hx => hW'.lt x (by simp [hx])) sp (fun x hx => hsp x (by simp [hx]))) (trodAll_cons_mk (arg_stays laidOut (by kernel_rfl) (of_decide_eq_true (by kernel_rfl)) h2 hg (fun x hx => hW'.lt x (by simp [hx])) sp (fun x hx => hsp x (by simp [hx]))) trodAll_mk0)))) (fun _ _ => rfl) rfl
    hg (ok_one (by kernel_rfl) rfl (okWide_bool_mk Tryz.underlying4 _))⟩

/-- A world for the witness: the listed variables hold what the program lays. -/
noncomputable def laidWorld (os : Os) : World := World.laidAll Tryz.prog os Rows.rangesAppliesUptoRow.laid
set_option maxRecDepth 1000000 in
theorem laid_met (os : Os) : laidMet Tryz.prog Rows.rangesAppliesUptoRow.laid ((laidWorld os).forCall (fun _ _ => 0) ⟨#[], #[.slice none 0 0, .agg #[.int .i64 0, .string ⟨#[]⟩, .int .i64 0, .slice none 0 0], .slice none 0 0], []⟩).memory :=
  laidMet_laidAll _ (by kernel_rfl) (by kernel_rfl)

theorem reads (os : Os) {H : Type} (enc : TypeId × Value → H) : ∃ places, DataW.whole enc Tryz.prog ((laidWorld os).forCall (fun _ _ => 0) ⟨#[], #[.slice none 0 0, .agg #[.int .i64 0, .string ⟨#[]⟩, .int .i64 0, .slice none 0 0], .slice none 0 0], []⟩).memory Tryz.f4.params.toList Rows.rangesAppliesSpec.vars false #[.slice none 0 0, .agg #[.int .i64 0, .string ⟨#[]⟩, .int .i64 0, .slice none 0 0], .slice none 0 0].toList 8 = some ([.nil, .agg [.lit (.int .i64 0), .lit (.string []), .lit (.int .i64 0), .nil], .nil], [], places) :=
  ⟨[], by kernel_rfl⟩

set_option maxRecDepth 100000 in
theorem liftedUpto (os : Os) (started : os.Started) (H : Type) (enc : TypeId × Value → H) (F : Stop.Interp) :
    ReturnsInHanded {} Tryz.checked os 4 .any ((Rows.OpenSpec.upto Rows.rangesAppliesSpec).preRow enc Tryz.prog Tryz.f4 Rows.rangesAppliesUptoRow.domain false Rows.rangesAppliesUptoRow.laid) (((Rows.OpenSpec.upto Rows.rangesAppliesSpec).at F).post enc Tryz.prog Tryz.f4 false true false false) := by
  obtain ⟨places, hx⟩ := reads os enc
  refine returnsInHanded_of_row (C := Tryz.checked) (s := Rows.OpenSpec.upto Rows.rangesAppliesSpec) own started (by kernel_rfl) Tryz.func4
    (witness_row_atRef (enc := enc) (C := Tryz.checked) false (laidWorld os) #[.slice none 0 0, .agg #[.int .i64 0, .string ⟨#[]⟩, .int .i64 0, .slice none 0 0], .slice none 0 0] (World.laidAll_os _ _ _) (by kernel_rfl) (by kernel_rfl) (by kernel_rfl)
      (OpenSpec.preRow_of_cond 8 hx (by kernel_rfl) (fun k hk => by cases hk; kernel_rfl) (by kernel_rfl) (laid_met os))) ?_
  intro W base args ds gs before hval hW g1 hcond g2 g3 g4 g5
  exact contract H enc W base args ds gs before hval hW (hcond _ rfl) (by first | exact tab_of g2 | exact tab_of g3 | exact tab_of g4 | exact tab_of g5 | exact tab_of g1) (by first | exact maxl_of g4 | exact maxl_of g3 | exact maxl_of g2 | exact maxl_of g5 | exact maxl_of g1)

theorem saidUpto : Rows.RangesAppliesUptoSaid :=
  OpenClaim.holds_of_cond 4 Tryz.f4 rfl rfl rfl rfl rfl rfl rfl ⟨rfl, rfl, rfl, rfl, rfl⟩ rfl rfl rfl rfl rfl (by kernel_rfl) Tryz.func4 (by kernel_rfl)
    (of_decide_eq_true (by kernel_rfl)) (by unfold Func.isWrapper; first | (rw [if_pos (by decide +kernel)]; kernel_rfl) | (rw [if_neg (by decide +kernel)]; exact ⟨rfl, rfl⟩))
    (fun os started H enc _ F => by rw [OpenClaim.pre_eq_preRow]; exact liftedUpto os started H enc F)

theorem plain (f : FuncId) (fn : Func) (hf : Tryz.pinned.checked.prog.funcNamed "conduit/conduitlaw19.RangesApplies" = some f) (hfn : Tryz.pinned.checked.prog.funcs[f]? = some fn) :
    true = Tryz.pinned.checked.prog.looks [] ∧ ∀ (j : Nat) t, fn.params[j]? = some t → Tryz.pinned.checked.prog.wantsStandIn t = false := by
  obtain rfl : f = 4 := Option.some.inj ((show Tryz.prog.funcNamed "conduit/conduitlaw19.RangesApplies" = some 4 by kernel_rfl).symm.trans hf) |>.symm
  obtain rfl : fn = Tryz.f4 := (Option.some.inj (Tryz.func4.symm.trans hfn)).symm
  refine ⟨by kernel_rfl, fun j t ht => ?_⟩
  rw [Tryz.params4] at ht
  have hm := Array.mem_of_getElem? ht
  simp only [List.mem_toArray, List.mem_cons, List.not_mem_nil, or_false] at hm
  rcases hm with rfl | rfl | rfl
  · exact (show Tryz.prog.wantsStandIn 29 = false by kernel_rfl)
  · exact (show Tryz.prog.wantsStandIn 31 = false by kernel_rfl)
  · exact (show Tryz.prog.wantsStandIn 32 = false by kernel_rfl)

theorem proved : Rows.RangesAppliesUptoCardSaid :=
  Claim7.holds_tied_plain_at .later [] _ _ _ _ saidUpto (fun _ h => by cases h) (by kernel_rfl) (fun _ h => by cases h) rangesAppliesUpto_row_tie rfl ⟨rfl, rfl⟩ (by kernel_rfl) rfl plain (by kernel_rfl)
end Go.Proofs.YtcaekfebnhedpaaGreatDoor.rangesApplies
