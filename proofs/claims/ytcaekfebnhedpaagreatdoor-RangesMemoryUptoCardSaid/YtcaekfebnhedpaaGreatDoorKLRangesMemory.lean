/- RangesMemory: for every input within the second form's bound the law answers true and leaves its arguments as they were. Condition: the bulk of the arguments at most 1048576. -/
import Derived.Test.YtcaekfebnhedpaaGreatDoorCards
import Derived.Test.YtcaekfebnhedpaaGreatDoorTie
import Derived.Test.YtcaekfebnhedpaaGreatDoorM44
import Derived.Test.YtcaekfebnhedpaaGreatDoorM45
import Derived.Test.YtcaekfebnhedpaaGreatDoorM46
import Derived.Test.YtcaekfebnhedpaaGreatDoorM47
import Derived.Test.YtcaekfebnhedpaaGreatDoorM48
import Derived.BigQuiet
import Derived.Deep.QuietTactic
import Derived.WalkKit
import Derived.ProofKit
import Derived.OpenShut
import Derived.JoinedCond
import Derived.Deep.DeepHandedRow
import Derived.Deep.DeepWitnessRowRef
import Derived.Lib.LaidTab
import Derived.Stop.LaidErr
import Derived.Lay
set_option linter.unusedVariables false
set_option linter.unusedSimpArgs false
set_option maxRecDepth 100000
namespace Go.Proofs.YtcaekfebnhedpaaGreatDoor.rangesMemory
open Go.ChangeShapes Go.WideShapes Go.ChangeAt Go.RowKit

set_option maxRecDepth 100000
/-- A response with fields of the call's own; the pair of a response and bytes. -/
def tR (i p Bs : Nat) (st : Int) (rs : List UInt8) (minor : Int) (l : List Fld) : Tr := ⟨i, p, fun W v => ∃ A n c, v = .agg #[.int .i64 st, .string (bs rs), .int .i64 minor, .slice A n c] ∧ OwnF W Bs (.slice A n c) l⟩
def tP (i p Bs : Nat) (st : Int) (rs : List UInt8) (minor : Int) (l : List Fld) (b : List UInt8) : Tr := ⟨i, p, fun W v => ∃ A n c Y k e, v = .tuple #[.agg #[.int .i64 st, .string (bs rs), .int .i64 minor, .slice A n c], .slice Y k e] ∧ OwnF W Bs (.slice A n c) l ∧ OwnB W Bs (.slice Y k e) b⟩
section
variable {i p Bs g : Nat} {tr : List Tr} {st minor : Int} {rs : List UInt8} {l : List Fld} {b : List UInt8}
@[simp] theorem tR_i : (tR i p Bs st rs minor l).i = i := rfl
@[simp] theorem tR_p : (tR i p Bs st rs minor l).p = p := rfl
@[simp] theorem tP_i : (tP i p Bs st rs minor l b).i = i := rfl
@[simp] theorem tP_p : (tP i p Bs st rs minor l b).p = p := rfl
theorem tB_q (h : TqOK 31 tr) : TqOK 31 (tB i p Bs b :: tr) :=
  h.cons (fun W W' v hb ⟨A, n, c, e, ho⟩ => ⟨A, n, c, e, ho.step hb⟩) (fun W g C u o v hg ⟨A, n, c, e, ho⟩ => ⟨A, n, c, e, own_setT ho hg (by decide) u⟩)
theorem tF_q (h : TqOK 31 tr) : TqOK 31 (tF i p Bs l :: tr) :=
  h.cons (fun W W' v hb ⟨A, n, c, e, ho⟩ => ⟨A, n, c, e, ho.step hb⟩) (fun W g C u o v hg ⟨A, n, c, e, ho⟩ => ⟨A, n, c, e, own_setT ho hg (by decide) u⟩)
theorem tR_q (h : TqOK 31 tr) : TqOK 31 (tR i p Bs st rs minor l :: tr) :=
  h.cons (fun W W' v hb ⟨A, n, c, e, ho⟩ => ⟨A, n, c, e, ho.step hb⟩) (fun W g C u o v hg ⟨A, n, c, e, ho⟩ => ⟨A, n, c, e, own_setT ho hg (by decide) u⟩)
theorem tP_q (h : TqOK 31 tr) : TqOK 31 (tP i p Bs st rs minor l b :: tr) :=
  h.cons (fun W W' v hb ⟨A, n, c, Y, k, e, h1, ho, hp⟩ => ⟨A, n, c, Y, k, e, h1, ho.step hb, hp.step hb⟩) (fun W g C u o v hg ⟨A, n, c, Y, k, e, h1, ho, hp⟩ => ⟨A, n, c, Y, k, e, h1, own_setT ho hg (by decide) u, own_setT hp hg (by decide) u⟩)
end
/-- The row's block lies from lo on, below hi. -/
def Lies (v : Value) (lo hi : Nat) : Prop := ∀ k, v.ownBlock = some k → lo ≤ k ∧ k < hi
theorem Lies.apart {v u : Value} {a b c d : Nat} (hv : Lies v a b) (hu : Lies u c d) (h : b ≤ c ∨ d ≤ a) : v.ownBlock = none ∨ v.ownBlock ≠ u.ownBlock := by
  cases hv' : v.ownBlock with
  | none => exact .inl rfl
  | some k =>
    refine .inr fun e => ?_
    have h1 := hv k hv'
    have h2 := hu k e.symm
    omega
theorem lies_of {w : World} {B : Nat} {e : TypeId} {size m : Nat} {v : Value} {xs : List Value} (h : w.ownsRow B e size v m xs) : Lies v B w.heap.size := fun k hk => World.ownsRow.lt h k hk
theorem own_type {w : World} {B : Nat} {e : TypeId} {size m k : Nat} {v : Value} {xs : List Value} (h : w.ownsRow B e size v m xs) (hk : v.ownBlock = some k) : ∃ cur, w.heap[k]? = some (.cells cur e (0, 0)) := by
  rcases h.2 with ⟨rfl, _⟩ | ⟨g, cap, cur, rfl, _, hg, _⟩
  · cases hk
  · have : g = k := by simpa [Value.ownBlock] using hk
    subst this
    exact ⟨cur, hg⟩
theorem own_apfr {w w' : World} {N : Nat} {A : Nat → Option Addr} {n c : Nat → Nat} {B : Nat} {e : TypeId} {size m : Nat} {v : Value} {xs : List Value} (h : w.ownsRow B e size v m xs) (hf : ApFr w w' N A n c) (hne : ∀ i, i < N → ∀ k, v.ownBlock = some k → (rowV A n c i).ownBlock ≠ some k) : w'.ownsRow B e size v m xs := by
  refine ⟨h.1, ?_⟩
  rcases h.2 with h1 | ⟨g, cap, cur, rfl, hb, hg, rest⟩
  · exact .inl h1
  · exact .inr ⟨g, cap, cur, rfl, hb, (hf.block g (Array.getElem?_eq_some_iff.1 hg).1 (fun i hi => hne i hi g rfl)).trans hg, rest⟩
/-- Three lists as functions of their places. -/
def f3 {α : Type} (a b c : α) (i : Nat) : α := if i = 0 then a else if i = 1 then b else c
theorem all3 {p : Nat → Prop} (h0 : p 0) (h1 : p 1) (h2 : p 2) : ∀ i, i < 3 → p i := fun i hi => by
  rcases (show i = 0 ∨ i = 1 ∨ i = 2 by omega) with rfl | rfl | rfl <;> assumption
theorem below_apfr {w W W' : World} {N : Nat} {A : Nat → Option Addr} {n c : Nat → Nat} {B : Nat} (h : Below B w W) (hf : ApFr W W' N A n c) (hB : B ≤ W.heap.size) (hr : ∀ i, i < N → ∀ k, (rowV A n c i).ownBlock = some k → B ≤ k) : Below B w W' :=
  h.trans ⟨hf.os, hf.tape, hf.output, hf.size, fun k hk => hf.block k (by omega) fun i hi e => by have := hr i hi k e; omega⟩
theorem row_apfr {W W' : World} {N B k : Nat} {A : Nat → Option Addr} {n c : Nat → Nat} {P : Nat → Nat → Prop} {cs : Array Value} {T : TypeId} (h : W.heap[k]? = some (.cells cs T (0, 0))) (hT : T ≠ 5) (hR : RowsF W B N A n c P) (hf : ApFr W W' N A n c) : W'.heap[k]? = some (.cells cs T (0, 0)) := by
  refine (hf.block k (Array.getElem?_eq_some_iff.1 h).1 fun i hi e => ?_).trans h
  obtain ⟨xs, h1, _⟩ := hR i hi
  obtain ⟨cur, h2⟩ := own_type h1 e
  rw [h] at h2
  injection h2 with h2
  injection h2 with _ h3
  exact hT h3
theorem ownF_apfr {W W' : World} {N B B2 : Nat} {A : Nat → Option Addr} {n c : Nat → Nat} {P : Nat → Nat → Prop} {v : Value} {l : List Fld} (h : OwnF W B2 v l) (hR : RowsF W B N A n c P) (hf : ApFr W W' N A n c) : OwnF W' B2 v l :=
  own_apfr h hf fun i hi k hk e => by
    obtain ⟨xs, h1, _⟩ := hR i hi
    obtain ⟨cur, h2⟩ := own_type h1 e
    obtain ⟨cur2, h3⟩ := own_type h hk
    rw [h2] at h3
    injection h3 with h3
    injection h3 with _ h4
    exact absurd h4 (by decide)
theorem row_grownF {W W' : World} {B k : Nat} {v : Value} {l : List Fld} {cs : Array Value} {T : TypeId} (h : W.heap[k]? = some (.cells cs T (0, 0))) (hT : T ≠ 46) (ho : OwnF W B v l) (hg : W.grownBy W' v.ownBlock) : W'.heap[k]? = some (.cells cs T (0, 0)) := by
  refine (hg.block k (Array.getElem?_eq_some_iff.1 h).1 fun e => ?_).trans h
  obtain ⟨cur, h2⟩ := own_type ho e.symm
  rw [h] at h2
  injection h2 with h2
  injection h2 with _ h3
  exact hT h3
theorem ownB_len {w : World} {B : Nat} {v : Value} {l : List UInt8} {m : Nat} (h : OwnB w B v l) (hm : l.length = m) : w.ownsRow B 5 1 v m (l.map bytV) := by subst hm; exact h
set_option maxHeartbeats 8000000 in
theorem walk (w : World) (ht : Tab w) (hM : MaxL w) (A : Option Addr) (n c : Nat) (q : List Fld) (hq : RdF w A n q) (hn : n + 1 ≤ 1048576) (hqf : ∀ f ∈ q, f.1.length ≤ 1048576 ∧ f.2.length ≤ 1048576) (hqs : Rg.sumF q ≤ 1048576)
    (st : Int) (rs : List UInt8) (minor : Int) (B : Option Addr) (m d : Nat) (l : List Fld) (hl : RdF w B m l) (hm : m + 3 ≤ 1048576) (hlf : ∀ f ∈ l, f.1.length ≤ 1048576 ∧ f.2.length ≤ 1048576) (hls : Rg.sumF l ≤ 1048576)
    (Y : Option Addr) (k e : Nat) (b : List UInt8) (hb : RdB w Y k b) (hk : k ≤ 1048576) (hke : k ≤ e) (hee : e ≤ maxLen) :
    Calls Tryz.prog 9 #[.slice A n c, respV st rs minor B m d, .slice Y k e] w fun x w' => x = .returned (.bool true) ∧ Below w.heap.size w w' := by
  unfold respV
  have hA := Lib.hid fun W hT hX => alive19_any W hT hX
  have hb0 := alloc_below w (.cells #[.int .i64 st, .string (bs rs), .int .i64 minor, .slice B m d] 31)
  have hr1 := heap_alloc_new w (.cells #[.int .i64 st, .string (bs rs), .int .i64 minor, .slice B m d] 31)
  have hql := hq.1
  have hll := hl.1
  have hbl := hb.1
  have hgj := Rg.get_sum q Rg.rngR
  have hgk := Rg.get_sum l Rg.ctR
  have hAL := applyL_len q st rs l b (by omega) (by omega)
  have HAP : Hid (∀ (A1 : Option Addr) (n1 c1 : Nat) (A2 : Option Addr) (n2 c2 : Nat) (Y2 : Option Addr) (k2 e2 : Nat) (W : World), Below w.heap.size w W → RdF W A1 n1 q → RdF W A2 n2 l → RdB W Y2 k2 b → k2 ≤ e2 → e2 ≤ maxLen →
      Calls Tryz.prog 17 #[.slice A1 n1 c1, .agg #[.int .i64 st, .string (bs rs), .int .i64 minor, .slice A2 n2 c2], .slice Y2 k2 e2] W fun x w' => ApOut W minor (Rg.applyL q st rs l b) x w') := Lib.hid fun A1 n1 c1 A2 n2 c2 Y2 k2 e2 W hW h1 h2 h3 h4 h5 =>
    apply_any A1 n1 c1 q st rs minor A2 n2 c2 l Y2 k2 e2 b W (tab_b ht hW) (maxl_b hM hW) h1 (by have := h1.1; omega) hqf (by omega) h2 (by have := h2.1; omega) hlf h3 (by have := h3.1; omega) h4 h5
  have HRA : Hid (∀ (W : World), Below w.heap.size w W →
      Calls Tryz.prog 18 #[.slice A n c, .agg #[.int .i64 st, .string (bs rs), .int .i64 minor, .slice B m d], .slice Y k e] W fun x w' => ApOut W minor (Rg.applyL q st rs l b) x w') := Lib.hid fun W hW =>
    rapply_any A n c q st rs minor B m d l Y k e b W (tab_b ht hW) (maxl_b hM hW) (hq.step hW) (by omega) hqf (by omega) (hl.step hW) (by omega) hlf (hb.step hW) (by omega) hke hee
  unfold ApOut at HAP HRA
  generalize Rg.applyL q st rs l b = RR at *
  obtain ⟨st2, rs2, l2, b2⟩ := RR
  unfold respV at HAP HRA
  dsimp only at HAP HRA hAL
  have hl2 : l2.length ≤ 1048576 := by omega
  have hb2 : b2.length ≤ 100000000 := hAL.2
  clear hAL hgj hgk
  have HSR2 : Hid (∀ (A1 : Option Addr) (n1 c1 : Nat) (A2 : Option Addr) (n2 c2 : Nat) (W : World), RdF W A1 n1 l2 → RdF W A2 n2 l2 → Calls Tryz.prog 19 #[.agg #[.int .i64 st2, .string (bs rs2), .int .i64 minor, .slice A1 n1 c1], .agg #[.int .i64 st2, .string (bs rs2), .int .i64 minor, .slice A2 n2 c2]] W fun x w' => x = .returned (.bool true) ∧ Below W.heap.size W w') := Lib.hid fun A1 n1 c1 A2 n2 c2 W h1 h2 => sameResponse_any st2 rs2 minor A1 A2 n1 c1 n2 c2 l2 W h1 h2 (by have := h1.1; omega) (by have := h2.1; omega)
  have HSB2 : Hid (∀ (A1 : Option Addr) (n1 c1 : Nat) (A2 : Option Addr) (n2 c2 : Nat) (W : World), RdB W A1 n1 b2 → RdB W A2 n2 b2 → Calls Tryz.prog 20 #[.slice A1 n1 c1, .slice A2 n2 c2] W fun x w' => x = .returned (.bool true) ∧ Below W.heap.size W w') := Lib.hid fun A1 n1 c1 A2 n2 c2 W h1 h2 => by
    have h := sameBytes_any A1 A2 n1 n2 c1 c2 b2 b2 W h1 h2 (by have := h1.1; omega) (by have := h2.1; omega)
    rw [show (b2 == b2) = true by simp] at h
    exact h
  have HSF : Hid (∀ (A1 : Option Addr) (n1 c1 : Nat) (W : World), Below w.heap.size w W → RdF W A1 n1 q → Calls Tryz.prog 21 #[.slice A1 n1 c1, .slice A n c] W fun x w' => x = .returned (.bool true) ∧ Below W.heap.size W w') := Lib.hid fun A1 n1 c1 W hW h1 => by
    have h := sameFields_any A1 A n1 n c1 c q q W h1 (hq.step hW) (by have := h1.1; omega) (by omega)
    rw [show (q == q) = true by simp] at h
    exact h
  have HSR1 : Hid (∀ (A1 : Option Addr) (n1 c1 : Nat) (W : World), Below w.heap.size w W → RdF W A1 n1 l → Calls Tryz.prog 19 #[.agg #[.int .i64 st, .string (bs rs), .int .i64 minor, .slice A1 n1 c1], .agg #[.int .i64 st, .string (bs rs), .int .i64 minor, .slice B m d]] W fun x w' => x = .returned (.bool true) ∧ Below W.heap.size W w') := Lib.hid fun A1 n1 c1 W hW h1 => sameResponse_any st rs minor A1 B n1 c1 m d l W h1 (hl.step hW) (by have := h1.1; omega) (by omega)
  clear hls hqs hqf hlf
  go_enter Tryz.func9, Tryz.ntmps9
  go_upto_region 1 with fail
  generalize w.alloc (.cells #[.int .i64 st, .string (bs rs), .int .i64 minor, .slice B m d] 31) = w1 at *
  go_wp2_with fail
  refine (hA.out _ (tab_b ht hb0) (maxl_b hM hb0)).mono ?_
  rintro xx w2 ⟨rfl, hbq⟩
  replace hr1 := row_keep hr1 hbq
  replace hb0 := bnext hb0 hbq hb0.size
  clear hA hbq
  have hz2 := hb0.size
  have hC := copyBytes_own Y k e b w2 (hb.step hb0) (by omega)
  go_wp2_with fail
  refine hC.mono ?_
  rintro xx w3 ⟨A3, n3, c3, rfl, hO3, hbq⟩
  clear hC
  replace hr1 := row_keep hr1 hbq
  replace hb0 := bnext hb0 hbq hb0.size
  have hz3 := hbq.size
  have hL3 := lies_of hO3
  clear hbq
  obtain ⟨a0, a1, a2, a3, -⟩ := row_facts4 hr1
  have hC := copyResponse_own st rs minor B m d l w3 (hl.step hb0) (by omega)
  unfold respV at hC
  go_wp2_with fail
  refine hC.mono ?_
  rintro xx w4b ⟨A4, n4, c4, rfl, hF4, hbq⟩
  clear hC a0 a1 a2 a3
  replace hr1 := row_keep hr1 hbq
  replace hb0 := bnext hb0 hbq hb0.size
  replace hO3 := hO3.step hbq
  have hz4b := hbq.size
  have hL4 := lies_of hF4
  clear hbq
  have hal := alloc_below w4b (.cells #[.int .i64 st, .string (bs rs), .int .i64 minor, .slice A4 n4 c4] 31)
  have hr8 := heap_alloc_new w4b (.cells #[.int .i64 st, .string (bs rs), .int .i64 minor, .slice A4 n4 c4] 31)
  go_upto_region 5 with fail
  replace hr1 := row_keep hr1 hal
  replace hO3 := hO3.step hal
  replace hF4 := hF4.step hal
  replace hb0 := bnext hb0 hal hb0.size
  have hz4 := hal.size
  clear hal
  generalize w4b.alloc (.cells #[.int .i64 st, .string (bs rs), .int .i64 minor, .slice A4 n4 c4] 31) = w4 at *
  generalize w4b.heap.size = g8 at *
  obtain ⟨a0, a1, a2, a3, -⟩ := row_facts4 hr8
  have hcap3 := hO3.capB
  go_wp2_with fail
  refine (HAP.out A n c A4 n4 c4 A3 n3 c3 w4 hb0 (hq.step hb0) hF4.rd hO3.rd hcap3.1 hcap3.2).mono ?_
  rintro xx w5b ⟨A5, n5, c5, A6, n6, c6, rfl, hF5, hO6, hbq⟩
  clear a0 a1 a2 a3
  replace hr1 := row_keep hr1 hbq
  replace hr8 := row_keep hr8 hbq
  replace hO3 := hO3.step hbq
  replace hF4 := hF4.step hbq
  replace hb0 := bnext hb0 hbq hb0.size
  have hz5b := hbq.size
  have hL5 := lies_of hF5
  have hL6 := lies_of hO6
  clear hbq
  have hal := alloc_below w5b (.cells #[.int .i64 st2, .string (bs rs2), .int .i64 minor, .slice A5 n5 c5] 31)
  have hr9 := heap_alloc_new w5b (.cells #[.int .i64 st2, .string (bs rs2), .int .i64 minor, .slice A5 n5 c5] 31)
  go_upto_region 6 with fail
  replace hr1 := row_keep hr1 hal
  replace hr8 := row_keep hr8 hal
  replace hO3 := hO3.step hal
  replace hF4 := hF4.step hal
  replace hF5 := hF5.step hal
  replace hO6 := hO6.step hal
  replace hb0 := bnext hb0 hal hb0.size
  have hz5 := hal.size
  clear hal
  generalize w5b.alloc (.cells #[.int .i64 st2, .string (bs rs2), .int .i64 minor, .slice A5 n5 c5] 31) = w5 at *
  generalize w5b.heap.size = g9 at *
  obtain ⟨a0, a1, a2, a3, -⟩ := row_facts4 hr8
  go_wp2_with fail
  refine (HAP.out A n c A4 n4 c4 A3 n3 c3 w5 hb0 (hq.step hb0) hF4.rd hO3.rd hcap3.1 hcap3.2).mono ?_
  rintro xx w6b ⟨A7, n7, c7, A8, n8, c8, rfl, hF7, hO8, hbq⟩
  clear a0 a1 a2 a3 HAP
  replace hr1 := row_keep hr1 hbq
  replace hr8 := row_keep hr8 hbq
  replace hr9 := row_keep hr9 hbq
  replace hO3 := hO3.step hbq
  replace hF4 := hF4.step hbq
  replace hF5 := hF5.step hbq
  replace hO6 := hO6.step hbq
  replace hb0 := bnext hb0 hbq hb0.size
  have hz6b := hbq.size
  have hL7 := lies_of hF7
  have hL8 := lies_of hO8
  clear hbq
  have hal := alloc_below w6b (.cells #[.int .i64 st2, .string (bs rs2), .int .i64 minor, .slice A7 n7 c7] 31)
  have hr10 := heap_alloc_new w6b (.cells #[.int .i64 st2, .string (bs rs2), .int .i64 minor, .slice A7 n7 c7] 31)
  go_upto_region 7 with fail
  replace hr1 := row_keep hr1 hal
  replace hr8 := row_keep hr8 hal
  replace hr9 := row_keep hr9 hal
  replace hO3 := hO3.step hal
  replace hF4 := hF4.step hal
  replace hF5 := hF5.step hal
  replace hO6 := hO6.step hal
  replace hF7 := hF7.step hal
  replace hO8 := hO8.step hal
  replace hb0 := bnext hb0 hal hb0.size
  have hz6 := hal.size
  clear hal
  generalize w6b.alloc (.cells #[.int .i64 st2, .string (bs rs2), .int .i64 minor, .slice A7 n7 c7] 31) = w6 at *
  generalize w6b.heap.size = g10 at *
  obtain ⟨a0, a1, a2, a3, -⟩ := row_facts4 hr1
  go_wp2_with fail
  refine (HRA.out w6 hb0).mono ?_
  rintro xx w7b ⟨A9, n9, c9, A10, n10, c10, rfl, hF9, hO10, hbq⟩
  clear a0 a1 a2 a3 HRA
  replace hr1 := row_keep hr1 hbq
  replace hr8 := row_keep hr8 hbq
  replace hr9 := row_keep hr9 hbq
  replace hr10 := row_keep hr10 hbq
  replace hO3 := hO3.step hbq
  replace hF4 := hF4.step hbq
  replace hF5 := hF5.step hbq
  replace hO6 := hO6.step hbq
  replace hF7 := hF7.step hbq
  replace hO8 := hO8.step hbq
  replace hb0 := bnext hb0 hbq hb0.size
  have hz7b := hbq.size
  have hL9 := lies_of hF9
  clear hbq
  have hal := alloc_below w7b (.cells #[.int .i64 st2, .string (bs rs2), .int .i64 minor, .slice A9 n9 c9] 31)
  have hr11 := heap_alloc_new w7b (.cells #[.int .i64 st2, .string (bs rs2), .int .i64 minor, .slice A9 n9 c9] 31)
  go_upto_region 8 with fail
  replace hr1 := row_keep hr1 hal
  replace hr8 := row_keep hr8 hal
  replace hr9 := row_keep hr9 hal
  replace hr10 := row_keep hr10 hal
  replace hO3 := hO3.step hal
  replace hF4 := hF4.step hal
  replace hF5 := hF5.step hal
  replace hO6 := hO6.step hal
  replace hF7 := hF7.step hal
  replace hO8 := hO8.step hal
  replace hF9 := hF9.step hal
  replace hO10 := hO10.step hal
  replace hb0 := bnext hb0 hal hb0.size
  have hz7 := hal.size
  clear hal
  generalize w7b.alloc (.cells #[.int .i64 st2, .string (bs rs2), .int .i64 minor, .slice A9 n9 c9] 31) = w7 at *
  generalize w7b.heap.size = g11 at *
  obtain ⟨a0, a1, a2, a3, -⟩ := row_facts4 hr9
  obtain ⟨y0, y1, y2, y3, -⟩ := row_facts4 hr11
  go_wp2_with fail
  refine (HSR2.out _ _ _ _ _ _ w7 hF5.rd hF9.rd).mono ?_
  rintro xx w8 ⟨rfl, hbq⟩
  clear a0 a1 a2 a3 y0 y1 y2 y3
  replace hr1 := row_keep hr1 hbq
  replace hr8 := row_keep hr8 hbq
  replace hr9 := row_keep hr9 hbq
  replace hr10 := row_keep hr10 hbq
  replace hr11 := row_keep hr11 hbq
  replace hO3 := hO3.step hbq
  replace hF4 := hF4.step hbq
  replace hF5 := hF5.step hbq
  replace hO6 := hO6.step hbq
  replace hF7 := hF7.step hbq
  replace hO8 := hO8.step hbq
  replace hF9 := hF9.step hbq
  replace hO10 := hO10.step hbq
  replace hb0 := bnext hb0 hbq hb0.size
  have hz8 := hbq.size
  clear hbq
  obtain ⟨a0, a1, a2, a3, -⟩ := row_facts4 hr10
  obtain ⟨y0, y1, y2, y3, -⟩ := row_facts4 hr11
  go_wp2_with fail
  refine (HSR2.out _ _ _ _ _ _ w8 hF7.rd hF9.rd).mono ?_
  rintro xx w9 ⟨rfl, hbq⟩
  clear a0 a1 a2 a3 y0 y1 y2 y3
  replace hr1 := row_keep hr1 hbq
  replace hr8 := row_keep hr8 hbq
  replace hr9 := row_keep hr9 hbq
  replace hr10 := row_keep hr10 hbq
  replace hr11 := row_keep hr11 hbq
  replace hO3 := hO3.step hbq
  replace hF4 := hF4.step hbq
  replace hF5 := hF5.step hbq
  replace hO6 := hO6.step hbq
  replace hF7 := hF7.step hbq
  replace hO8 := hO8.step hbq
  replace hF9 := hF9.step hbq
  replace hO10 := hO10.step hbq
  replace hb0 := bnext hb0 hbq hb0.size
  have hz9 := hbq.size
  clear hbq
  go_wp2_with fail
  refine (HSB2.out _ _ _ _ _ _ w9 hO6.rd hO10.rd).mono ?_
  rintro xx w10 ⟨rfl, hbq⟩
  replace hr1 := row_keep hr1 hbq
  replace hr8 := row_keep hr8 hbq
  replace hr9 := row_keep hr9 hbq
  replace hr10 := row_keep hr10 hbq
  replace hr11 := row_keep hr11 hbq
  replace hO3 := hO3.step hbq
  replace hF4 := hF4.step hbq
  replace hF5 := hF5.step hbq
  replace hO6 := hO6.step hbq
  replace hF7 := hF7.step hbq
  replace hO8 := hO8.step hbq
  replace hF9 := hF9.step hbq
  replace hO10 := hO10.step hbq
  replace hb0 := bnext hb0 hbq hb0.size
  have hz10 := hbq.size
  clear hbq
  go_wp2_with fail
  refine (HSB2.out _ _ _ _ _ _ w10 hO8.rd hO10.rd).mono ?_
  rintro xx w11 ⟨rfl, hbq⟩
  replace hr1 := row_keep hr1 hbq
  replace hr8 := row_keep hr8 hbq
  replace hr9 := row_keep hr9 hbq
  replace hr10 := row_keep hr10 hbq
  replace hr11 := row_keep hr11 hbq
  replace hO3 := hO3.step hbq
  replace hF4 := hF4.step hbq
  replace hF5 := hF5.step hbq
  replace hO6 := hO6.step hbq
  replace hF7 := hF7.step hbq
  replace hO8 := hO8.step hbq
  replace hF9 := hF9.step hbq
  replace hb0 := bnext hb0 hbq hb0.size
  have hz11 := hbq.size
  clear hbq HSB2
  have hal := alloc_below w11 (.cells #[.slice A6 n6 c6, .slice A8 n8 c8, .slice A3 n3 c3] 32)
  have hSr := heap_alloc_new w11 (.cells #[.slice A6 n6 c6, .slice A8 n8 c8, .slice A3 n3 c3] 32)
  replace hr1 := row_keep hr1 hal
  replace hr8 := row_keep hr8 hal
  replace hr9 := row_keep hr9 hal
  replace hr10 := row_keep hr10 hal
  replace hr11 := row_keep hr11 hal
  replace hO3 := hO3.step hal
  replace hF4 := hF4.step hal
  replace hF5 := hF5.step hal
  replace hO6 := hO6.step hal
  replace hF7 := hF7.step hal
  replace hO8 := hO8.step hal
  replace hF9 := hF9.step hal
  replace hb0 := bnext hb0 hal hb0.size
  have hz12 := hal.size
  have hz12b : w11.heap.size < (w11.alloc (.cells #[.slice A6 n6 c6, .slice A8 n8 c8, .slice A3 n3 c3] 32)).heap.size := by simp
  clear hal
  have hn6 : n6 = b2.length := hO6.rd.1.symm
  have hn8 : n8 = b2.length := hO8.rd.1.symm
  have hn3 : n3 = b.length := hO3.rd.1.symm
  have hRF : RowsF (w11.alloc (.cells #[.slice A6 n6 c6, .slice A8 n8 c8, .slice A3 n3 c3] 32)) w.heap.size 3 (f3 A6 A8 A3) (f3 n6 n8 n3) (f3 c6 c8 c3) (fun _ _ => False) := all3 ⟨_, own_mono (ownB_len hO6 hn6.symm) (by omega), fun _ _ h => h.elim⟩ ⟨_, own_mono (ownB_len hO8 hn8.symm) (by omega), fun _ _ h => h.elim⟩ ⟨_, own_mono (ownB_len hO3 hn3.symm) (by omega), fun _ _ h => h.elim⟩
  have hRL : ∀ i, i < 3 → Lies (rowV (f3 A6 A8 A3) (f3 n6 n8 n3) (f3 c6 c8 c3) i) (f3 w4.heap.size w5.heap.size w2.heap.size i) (f3 g9 g10 w3.heap.size i) := all3 hL6 hL8 hL3
  have hDD : RowsD 3 (f3 A6 A8 A3) (f3 n6 n8 n3) (f3 c6 c8 c3) := fun i j hi hj hij => by
    refine (hRL i hi).apart (hRL j hj) ?_
    rcases (show i = 0 ∨ i = 1 ∨ i = 2 by omega) with rfl | rfl | rfl <;> rcases (show j = 0 ∨ j = 1 ∨ j = 2 by omega) with rfl | rfl | rfl <;> simp [f3] at hij ⊢ <;> omega
  have hRB : ∀ i, i < 3 → ∀ kk, (rowV (f3 A6 A8 A3) (f3 n6 n8 n3) (f3 c6 c8 c3) i).ownBlock = some kk → w.heap.size ≤ kk ∧ kk < w11.heap.size := fun i hi kk e => by
    have h9 := hRL i hi kk e
    rcases (show i = 0 ∨ i = 1 ∨ i = 2 by omega) with rfl | rfl | rfl <;> simp [f3] at h9 <;> omega
  have hC := apart_any w.heap.size 3 (f3 A6 A8 A3) (f3 n6 n8 n3) (f3 c6 c8 c3) w11.heap.size 0 3 (w11.alloc (.cells #[.slice A6 n6 c6, .slice A8 n8 c8, .slice A3 n3 c3] 32)) (by omega) hRF hDD hz12b
    (all3 (by rw [cell_of_row _ _ _ _ _ _ hSr]; rfl) (by rw [cell_of_row _ _ _ _ _ _ hSr]; rfl) (by rw [cell_of_row _ _ _ _ _ _ hSr]; rfl)) (fun i hi e => by have := (hRB i hi _ e).2; omega)
    (all3 (by show n6 ≤ _; omega) (by show n8 ≤ _; omega) (by show n3 ≤ _; omega)) (by omega)
  clear hDD hSr hn6 hn8 hn3
  go_wp2_with fail
  refine hC.mono ?_
  rintro xx w12 ⟨rfl, hAF⟩
  clear hC
  replace hr1 := row_apfr hr1 (by decide) hRF hAF
  replace hr8 := row_apfr hr8 (by decide) hRF hAF
  replace hr9 := row_apfr hr9 (by decide) hRF hAF
  replace hr10 := row_apfr hr10 (by decide) hRF hAF
  replace hr11 := row_apfr hr11 (by decide) hRF hAF
  replace hF4 := ownF_apfr hF4 hRF hAF
  replace hF5 := ownF_apfr hF5 hRF hAF
  replace hF7 := ownF_apfr hF7 hRF hAF
  replace hF9 := ownF_apfr hF9 hRF hAF
  replace hb0 := below_apfr hb0 hAF (by omega) (fun i hi kk e => (hRB i hi kk e).1)
  have hz13 := hAF.size
  clear hAF hRF hRL hRB hO3 hO6 hO8 hL3 hL6 hL8 hcap3
  have hn5 : n5 ≤ 4194304 := by have := hF5.rd.1; omega
  obtain ⟨a0, a1, a2, a3, -⟩ := row_facts4 hr9
  have hC := marked_any A5 n5 c5 l2 _ w12 hF5 hn5 (by omega)
  go_wp2_with fail
  refine hC.mono ?_
  rintro xx w13 ⟨rfl, hg⟩
  clear hC a0 a1 a2 a3 hr9
  replace hr1 := row_grownF hr1 (by decide) hF5 hg
  replace hr8 := row_grownF hr8 (by decide) hF5 hg
  replace hr10 := row_grownF hr10 (by decide) hF5 hg
  replace hr11 := row_grownF hr11 (by decide) hF5 hg
  replace hF4 : OwnF w13 _ _ l := World.ownsRow.kept hF4 hg (hL4.apart hL5 (by omega))
  replace hF7 : OwnF w13 _ _ l2 := World.ownsRow.kept hF7 hg (hL7.apart hL5 (by omega))
  replace hF9 : OwnF w13 _ _ l2 := World.ownsRow.kept hF9 hg (hL9.apart hL5 (by omega))
  replace hb0 := hb0.grown hg (by omega) (fun kk e => by have := (hL5 kk e).1; omega)
  have hz14 := hg.size
  clear hg hF5
  obtain ⟨a0, a1, a2, a3, -⟩ := row_facts4 hr10
  obtain ⟨y0, y1, y2, y3, -⟩ := row_facts4 hr11
  go_wp2_with fail
  refine (HSR2.out _ _ _ _ _ _ w13 hF7.rd hF9.rd).mono ?_
  rintro xx w14 ⟨rfl, hbq⟩
  clear a0 a1 a2 a3 y0 y1 y2 y3 hr10 hr11 hF7 hF9
  replace hr1 := row_keep hr1 hbq
  replace hr8 := row_keep hr8 hbq
  replace hF4 := hF4.step hbq
  replace hb0 := bnext hb0 hbq hb0.size
  clear hbq
  obtain ⟨a0, a1, a2, a3, -⟩ := row_facts4 hr8
  obtain ⟨y0, y1, y2, y3, -⟩ := row_facts4 hr1
  go_wp2_with fail
  refine (HSR1.out _ _ _ w14 hb0 hF4.rd).mono ?_
  rintro xx w15 ⟨rfl, hbq⟩
  replace hb0 := bnext hb0 hbq hb0.size
  clear hbq a0 a1 a2 a3 y0 y1 y2 y3
  go_wp2
  go_ret
  exact ⟨rfl, hb0⟩

theorem tab_of {W : World} (h : laidMet Tryz.prog Rows.rangesMemoryUptoRow.laid W) : Tab W :=
  Lib.tabIs_of_head (t := 167) (e := 137) (n := 20) (g := 2) (by kernel_rfl) (by kernel_rfl) (by kernel_rfl) (by kernel_rfl) (by kernel_rfl) (by kernel_rfl) ((h).tail).tail
theorem own : ownKnob Tryz.prog.godebug = none := by kernel_rfl
theorem contract (H : Type) (enc : TypeId × Value → H) (W : World) (base : Nat) (args : Array Value) (ds gs : List (DataW H)) (before : List MemPlace)
    (hval : ∀ (j : Nat) t v, Tryz.f9.params[j]? = some t → args[j]? = some v → Value.okWide Tryz.prog W .any base t v)
    (hW : DataW.Whole enc Tryz.prog Tryz.f9.params.toList Rows.rangesMemorySpec.vars false W args.toList ds gs before) (hk : Rows.uptoSmall H (ds ++ gs) = true) (htab : Tab W) (hmax : MaxL W) :
    Calls Tryz.prog 9 args W fun e W' => ∃ v, e = .returned v ∧ Rows.rangesMemorySpec.post enc Tryz.prog Tryz.f9 false true false false W args v W' := by
  have hW' := hW
  obtain ⟨p, q, hA0, hV, rfl, hfz, hnd⟩ := hW
  have hA : DataW.TrodAll enc Tryz.prog W 0 (fun _ => true) true Tryz.f9.params.toList args.toList ds p := hA0
  rw [Tryz.params9] at hA hval
  obtain ⟨v0, vs0, d0, ds0, p0, q0, hargs, rfl, rfl, h0, r0⟩ := trodAll_cons hA
  obtain ⟨v1, vs1, d1, ds1, p1, q1, rfl, rfl, rfl, h1, r1⟩ := trodAll_cons r0
  obtain ⟨v2, vs2, d2, ds2, p2, q2, rfl, rfl, rfl, h2, r2⟩ := trodAll_cons r1
  obtain ⟨rfl, rfl, rfl⟩ := trodAll_nil r2
  obtain rfl : args = #[v0, v1, v2] := by cases args; simp_all
  obtain ⟨rfl, rfl⟩ := trodVars_none hV
  have hall := bulks.bound hk
  simp only [List.append_nil, Rows.uptoBulkAll] at hall
  have hb0 : Rows.uptoBulk d0 ≤ 1048576 := by omega
  have hb1 : Rows.uptoBulk d1 ≤ 1048576 := by omega
  have hb2 : Rows.uptoBulk d2 ≤ 1048576 := by omega
  clear hall
  obtain ⟨A0, n0, c0, l0, rfl, hr0, hn0, hf0, hc0, hd0, hs0⟩ := opFS (hval 0 29 v0 rfl rfl) h0 hb0
  obtain ⟨st1, rs1, x1, A1, n1, c1, l1, rfl, hr1, hn1, hf1, hc1, hd1, hs1, hu1, hv1⟩ := opRespS (hval 1 31 v1 rfl rfl) h1 hb1
  obtain ⟨Y2, k2, y2, b2, rfl, hr2, hn2, hc2, hd2⟩ := opBytesA (hval 2 32 v2 rfl rfl) h2 hb2
  clear hA0
  refine (walk W htab hmax A0 n0 c0 l0 hr0 hn0 hf0 hs0 st1 rs1 x1 A1 n1 c1 l1 hr1 hn1 hf1 hs1 Y2 k2 y2 b2 hr2 hn2 hc2 hd2).mono fun e W' ⟨he, hg⟩ => ?_
  subst he
  exact ⟨_, rfl, post_of_below (pa := p0 ++ (p1 ++ (p2 ++ ([])))) (pv := []) hW' (fun _ _ _ => (trodAll_cons_mk (shut_bool Tryz.underlying4 _) trodAll_mk0)) (fun sp hsp => (trodAll_cons_mk (arg_stays laidOut (by kernel_rfl) (of_decide_eq_true (by kernel_rfl)) h0 hg (fun x hx => hW'.lt x (by simp [hx])) sp (fun x hx => hsp x (by simp [hx]))) (trodAll_cons_mk (arg_stays laidOut (by kernel_rfl) (of_decide_eq_true (by kernel_rfl)) h1 hg (fun x hx => hW'.lt x (by simp [hx])) sp (fun x hx => hsp x (by simp [hx]))) (trodAll_cons_mk (arg_stays laidOut (by kernel_rfl) (of_decide_eq_true (by kernel_rfl)) h2 hg (fun x hx => hW'.lt x (by simp [hx])) sp (fun x hx => hsp x (by simp [hx]))) trodAll_mk0)))) (fun _ _ => rfl) rfl
    hg (ok_one (by kernel_rfl) rfl (okWide_bool_mk Tryz.underlying4 _))⟩

/-- A world for the witness: the listed variables hold what the program lays. -/
noncomputable def laidWorld (os : Os) : World := World.laidAll Tryz.prog os Rows.rangesMemoryUptoRow.laid
set_option maxRecDepth 1000000 in
theorem laid_met (os : Os) : laidMet Tryz.prog Rows.rangesMemoryUptoRow.laid ((laidWorld os).forCall (fun _ _ => 0) ⟨#[], #[.slice none 0 0, .agg #[.int .i64 0, .string ⟨#[]⟩, .int .i64 0, .slice none 0 0], .slice none 0 0], []⟩).memory :=
  laidMet_laidAll _ (by kernel_rfl) (by kernel_rfl)

theorem reads (os : Os) {H : Type} (enc : TypeId × Value → H) : ∃ places, DataW.whole enc Tryz.prog ((laidWorld os).forCall (fun _ _ => 0) ⟨#[], #[.slice none 0 0, .agg #[.int .i64 0, .string ⟨#[]⟩, .int .i64 0, .slice none 0 0], .slice none 0 0], []⟩).memory Tryz.f9.params.toList Rows.rangesMemorySpec.vars false #[.slice none 0 0, .agg #[.int .i64 0, .string ⟨#[]⟩, .int .i64 0, .slice none 0 0], .slice none 0 0].toList 8 = some ([.nil, .agg [.lit (.int .i64 0), .lit (.string []), .lit (.int .i64 0), .nil], .nil], [], places) :=
  ⟨[], by kernel_rfl⟩

set_option maxRecDepth 100000 in
theorem liftedUpto (os : Os) (started : os.Started) (H : Type) (enc : TypeId × Value → H) (F : Stop.Interp) :
    ReturnsInHanded {} Tryz.checked os 9 .any ((Rows.OpenSpec.upto Rows.rangesMemorySpec).preRow enc Tryz.prog Tryz.f9 Rows.rangesMemoryUptoRow.domain false Rows.rangesMemoryUptoRow.laid) (((Rows.OpenSpec.upto Rows.rangesMemorySpec).at F).post enc Tryz.prog Tryz.f9 false true false false) := by
  obtain ⟨places, hx⟩ := reads os enc
  refine returnsInHanded_of_row (C := Tryz.checked) (s := Rows.OpenSpec.upto Rows.rangesMemorySpec) own started (by kernel_rfl) Tryz.func9
    (witness_row_atRef (enc := enc) (C := Tryz.checked) false (laidWorld os) #[.slice none 0 0, .agg #[.int .i64 0, .string ⟨#[]⟩, .int .i64 0, .slice none 0 0], .slice none 0 0] (World.laidAll_os _ _ _) (by kernel_rfl) (by kernel_rfl) (by kernel_rfl)
      (OpenSpec.preRow_of_cond 8 hx (by kernel_rfl) (fun k hk => by cases hk; kernel_rfl) (by kernel_rfl) (laid_met os))) ?_
  intro W base args ds gs before hval hW g1 hcond g2 g3 g4 g5
  exact contract H enc W base args ds gs before hval hW (hcond _ rfl) (by first | exact tab_of g2 | exact tab_of g3 | exact tab_of g4 | exact tab_of g5 | exact tab_of g1) (by first | exact maxl_of g4 | exact maxl_of g3 | exact maxl_of g2 | exact maxl_of g5 | exact maxl_of g1)

theorem saidUpto : Rows.RangesMemoryUptoSaid :=
  OpenClaim.holds_of_cond 9 Tryz.f9 rfl rfl rfl rfl rfl rfl rfl ⟨rfl, rfl, rfl, rfl, rfl⟩ rfl rfl rfl rfl rfl (by kernel_rfl) Tryz.func9 (by kernel_rfl)
    (of_decide_eq_true (by kernel_rfl)) (by unfold Func.isWrapper; first | (rw [if_pos (by decide +kernel)]; kernel_rfl) | (rw [if_neg (by decide +kernel)]; exact ⟨rfl, rfl⟩))
    (fun os started H enc _ F => by rw [OpenClaim.pre_eq_preRow]; exact liftedUpto os started H enc F)

theorem plain (f : FuncId) (fn : Func) (hf : Tryz.pinned.checked.prog.funcNamed "conduit/conduitlaw19.RangesMemory" = some f) (hfn : Tryz.pinned.checked.prog.funcs[f]? = some fn) :
    true = Tryz.pinned.checked.prog.looks [] ∧ ∀ (j : Nat) t, fn.params[j]? = some t → Tryz.pinned.checked.prog.wantsStandIn t = false := by
  obtain rfl : f = 9 := Option.some.inj ((show Tryz.prog.funcNamed "conduit/conduitlaw19.RangesMemory" = some 9 by kernel_rfl).symm.trans hf) |>.symm
  obtain rfl : fn = Tryz.f9 := (Option.some.inj (Tryz.func9.symm.trans hfn)).symm
  refine ⟨by kernel_rfl, fun j t ht => ?_⟩
  rw [Tryz.params9] at ht
  have hm := Array.mem_of_getElem? ht
  simp only [List.mem_toArray, List.mem_cons, List.not_mem_nil, or_false] at hm
  rcases hm with rfl | rfl | rfl
  · exact (show Tryz.prog.wantsStandIn 29 = false by kernel_rfl)
  · exact (show Tryz.prog.wantsStandIn 31 = false by kernel_rfl)
  · exact (show Tryz.prog.wantsStandIn 32 = false by kernel_rfl)

theorem proved : Rows.RangesMemoryUptoCardSaid :=
  Claim7.holds_tied_plain_at .later [] _ _ _ _ saidUpto (fun _ h => by cases h) (by kernel_rfl) (fun _ h => by cases h) rangesMemoryUpto_row_tie rfl ⟨rfl, rfl⟩ (by kernel_rfl) rfl plain (by kernel_rfl)
end Go.Proofs.YtcaekfebnhedpaaGreatDoor.rangesMemory
