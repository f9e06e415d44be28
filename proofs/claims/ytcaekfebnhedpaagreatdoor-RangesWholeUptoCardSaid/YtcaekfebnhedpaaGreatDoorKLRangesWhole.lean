/- RangesWhole: for every input within the second form's bound the law answers true and leaves its arguments as they were. Condition: the bulk of the arguments at most 1048576. -/
import Derived.Test.YtcaekfebnhedpaaGreatDoorCards
import Derived.Test.YtcaekfebnhedpaaGreatDoorTie
import Derived.Test.YtcaekfebnhedpaaGreatDoorM39
import Derived.Test.YtcaekfebnhedpaaGreatDoorM41
import Derived.Test.YtcaekfebnhedpaaGreatDoorM42
import Derived.WalkKit
import Derived.ProofKit
import Derived.OpenShut
import Derived.JoinedCond
import Derived.Deep.DeepHandedRow
import Derived.Deep.DeepWitnessRowRef
import Derived.Lib.LaidTab
import Derived.Stop.LaidErr
import Derived.Lay
set_option linter.unusedVariables false
set_option linter.unusedSimpArgs false
set_option maxRecDepth 100000
namespace Go.Proofs.YtcaekfebnhedpaaGreatDoor.rangesWhole
open Go.ChangeShapes Go.WideShapes Go.ChangeAt Go.RowKit

set_option maxRecDepth 100000
set_option maxHeartbeats 1000000 in
theorem copyResponse_own (st : Int) (rs : List UInt8) (minor : Int) (A : Option Addr) (n c : Nat) (l : List Fld) (w : World) (hl : RdF w A n l) (hn : n ≤ 1048576) :
    Calls Tryz.prog 15 #[respV st rs minor A n c] w fun e w' => ∃ A' n' c', e = .returned (respV st rs minor A' n' c') ∧ OwnF w' w.heap.size (.slice A' n' c') l ∧ Below w.heap.size w w' := by
  unfold respV
  have hal1 := alloc_below w (.cells #[.int .i64 st, .string (bs rs), .int .i64 minor, .slice A n c] 31)
  have hr1 := heap_alloc_new w (.cells #[.int .i64 st, .string (bs rs), .int .i64 minor, .slice A n c] 31)
  have hal2 := alloc_below (w.alloc (.cells #[.int .i64 st, .string (bs rs), .int .i64 minor, .slice A n c] 31)) (.cells #[.int .i64 0, .string ⟨#[]⟩, .int .i64 0, .slice none 0 0] 31)
  have hb0 := bnext hal1 hal2 hal1.size
  have hl2 := (hl.step hal1).step hal2
  have hr2 := heap_alloc_new (w.alloc (.cells #[.int .i64 st, .string (bs rs), .int .i64 minor, .slice A n c] 31)) (.cells #[.int .i64 0, .string ⟨#[]⟩, .int .i64 0, .slice none 0 0] 31)
  rw [show (w.alloc (.cells #[.int .i64 st, .string (bs rs), .int .i64 minor, .slice A n c] 31)).heap.size = w.heap.size + 1 by simp] at hr2
  have hr1a := row_keep hr1 hal2
  have hC := copyFields_own A n c l _ hl2 (by omega)
  clear hal1 hal2 hl hl2 hr1
  go_enter Tryz.func15, Tryz.ntmps15
  go_wp2_with fail
  refine hC.mono ?_
  rintro e w1 ⟨A', n', c', rfl, hown, hb1⟩
  have hr1b := row_keep hr1a hb1
  have hr2b := row_keep hr2 hb1
  have hbA := bnext hb0 hb1 hb0.size
  have hrd := hown.rd
  have hlt : w.heap.size + 2 ≤ w1.heap.size := by have := hb1.size; simpa using this
  obtain ⟨a0, a1, a2, a3, g0, g1, g2, g3⟩ := row_facts4 hr1b
  obtain ⟨c0, c1, c2, c3, f0, f1, f2, f3⟩ := row_facts4 hr2b
  clear hr1a hr2 hr1b hr2b hb1 hb0 hC
  rw [show ((w.alloc (.cells #[.int .i64 st, .string (bs rs), .int .i64 minor, .slice A n c] 31)).alloc (.cells #[.int .i64 0, .string ⟨#[]⟩, .int .i64 0, .slice none 0 0] 31)).heap.size = w.heap.size + 2 by simp] at hown
  go_wp2
  refine bodyPost_ret (v := .agg #[.int .i64 st, .string (bs rs), .int .i64 minor, .slice A' n' c']) (by simp [results, Tryz.results15, go_sem, c0, c1, c2, c3]) rfl ⟨A', n', c', rfl, (((((hown.setCell (by simp) _).setCell (by simp) _).setCell (by simp) _).setCell (by simp) _).setCell (by simp) _).mono (by omega), ((((hbA.setCell (by simp) _).setCell (by simp) _).setCell (by simp) _).setCell (by simp) _).setCell (by simp) _⟩
abbrev tagT : List UInt8 := [34, 110, 111, 32, 115, 117, 99, 104, 32, 116, 97, 103, 34]
theorem put_getX (l : List Fld) (nm v : List UInt8) : valuesL (Rg.putF l nm v) nm = [v] := by
  unfold Rg.putF valuesL withoutF
  rw [List.filter_append, List.filter_filter]
  have h1 : l.filter (fun f => isB f nm && !([nm].any (isB f))) = [] := by
    rw [List.filter_eq_nil_iff]
    intro f _
    simp
  have h2 : isB (nm, v) nm = true := by unfold isB; simp
  rw [h1, List.nil_append, List.filter_cons, if_pos h2]; rfl
theorem whole_has (q l : List Fld) (b : List UInt8) : Rg.asIs (Rg.putF q Rg.irP tagT) 200 l b := by
  have hv : valuesL (Rg.putF q Rg.irP tagT) Rg.irR = [tagT] := by rw [valuesL_nameG (a := Rg.irR) (b := Rg.irP) rfl]; exact put_getX q Rg.irP tagT
  have hg : Frs.getL (Rg.putF q Rg.irP tagT) Rg.irR = tagT := by unfold Frs.getL; rw [hv]; exact Lib.join_one _ _
  refine .inr (.inr (.inr ?_))
  unfold Rg.holdsL
  rw [hv, hg]
  have h1 : sameR tagT (Frs.getL l Val.etagN) true = false := by
    unfold sameR
    rw [show (tgR tagT).2.2 = false from by decide +kernel]; rfl
  have h2 : (Frs.momO l Frs.lmN && (tagT == Frs.getL l Frs.lmN)) = false := by
    cases h : (tagT == Frs.getL l Frs.lmN) with
    | false => simp
    | true =>
      have he := eq_of_beq h
      unfold Frs.momO
      rw [← he, show ((Dt.dparse tagT).2 == 0) = false from by decide +kernel]; rfl
  rw [h1, h2]; rfl
/-- A response with fields of the call's own; the pair of a response and bytes. -/
def tR (i p Bs : Nat) (st : Int) (rs : List UInt8) (minor : Int) (l : List Fld) : Tr := ⟨i, p, fun W v => ∃ A n c, v = .agg #[.int .i64 st, .string (bs rs), .int .i64 minor, .slice A n c] ∧ OwnF W Bs (.slice A n c) l⟩
def tP (i p Bs : Nat) (st : Int) (rs : List UInt8) (minor : Int) (l : List Fld) (b : List UInt8) : Tr := ⟨i, p, fun W v => ∃ A n c Y k e, v = .tuple #[.agg #[.int .i64 st, .string (bs rs), .int .i64 minor, .slice A n c], .slice Y k e] ∧ OwnF W Bs (.slice A n c) l ∧ OwnB W Bs (.slice Y k e) b⟩
section
variable {i p Bs g : Nat} {tr : List Tr} {st minor : Int} {rs : List UInt8} {l : List Fld} {b : List UInt8}
@[simp] theorem tR_i : (tR i p Bs st rs minor l).i = i := rfl
@[simp] theorem tR_p : (tR i p Bs st rs minor l).p = p := rfl
@[simp] theorem tP_i : (tP i p Bs st rs minor l b).i = i := rfl
@[simp] theorem tP_p : (tP i p Bs st rs minor l b).p = p := rfl
theorem tB_q (h : TqOK 31 tr) : TqOK 31 (tB i p Bs b :: tr) :=
  h.cons (fun W W' v hb ⟨A, n, c, e, ho⟩ => ⟨A, n, c, e, ho.step hb⟩) (fun W g C u o v hg ⟨A, n, c, e, ho⟩ => ⟨A, n, c, e, own_setT ho hg (by decide) u⟩)
theorem tF_q (h : TqOK 31 tr) : TqOK 31 (tF i p Bs l :: tr) :=
  h.cons (fun W W' v hb ⟨A, n, c, e, ho⟩ => ⟨A, n, c, e, ho.step hb⟩) (fun W g C u o v hg ⟨A, n, c, e, ho⟩ => ⟨A, n, c, e, own_setT ho hg (by decide) u⟩)
theorem tR_q (h : TqOK 31 tr) : TqOK 31 (tR i p Bs st rs minor l :: tr) :=
  h.cons (fun W W' v hb ⟨A, n, c, e, ho⟩ => ⟨A, n, c, e, ho.step hb⟩) (fun W g C u o v hg ⟨A, n, c, e, ho⟩ => ⟨A, n, c, e, own_setT ho hg (by decide) u⟩)
theorem tP_q (h : TqOK 31 tr) : TqOK 31 (tP i p Bs st rs minor l b :: tr) :=
  h.cons (fun W W' v hb ⟨A, n, c, Y, k, e, h1, ho, hp⟩ => ⟨A, n, c, Y, k, e, h1, ho.step hb, hp.step hb⟩) (fun W g C u o v hg ⟨A, n, c, Y, k, e, h1, ho, hp⟩ => ⟨A, n, c, Y, k, e, h1, own_setT ho hg (by decide) u, own_setT hp hg (by decide) u⟩)
end
set_option maxHeartbeats 8000000 in
theorem walk (w : World) (ht : Tab w) (hM : MaxL w) (A : Option Addr) (n c : Nat) (q : List Fld) (hq : RdF w A n q) (hn : n + 1 ≤ 1048576) (hqf : ∀ f ∈ q, f.1.length ≤ 1048576 ∧ f.2.length ≤ 1048576) (hqs : Rg.sumF q ≤ 1048576)
    (st : Int) (rs : List UInt8) (minor : Int) (B : Option Addr) (m d : Nat) (l : List Fld) (hl : RdF w B m l) (hm : m + 3 ≤ 1048576) (hlf : ∀ f ∈ l, f.1.length ≤ 1048576 ∧ f.2.length ≤ 1048576) (hls : Rg.sumF l ≤ 1048576)
    (Y : Option Addr) (k e : Nat) (b : List UInt8) (hb : RdB w Y k b) (hk : k ≤ 1048576) (hke : k ≤ e) (hee : e ≤ maxLen) :
    Calls Tryz.prog 8 #[.slice A n c, respV st rs minor B m d, .slice Y k e] w fun x w' => x = .returned (.bool true) ∧ Below w.heap.size w w' := by
  unfold respV
  have hA := Lib.hid fun W hT hX => alive19_any W hT hX
  have hb0 := alloc_below w (.cells #[.int .i64 st, .string (bs rs), .int .i64 minor, .slice B m d] 31)
  have hr1 := heap_alloc_new w (.cells #[.int .i64 st, .string (bs rs), .int .i64 minor, .slice B m d] 31)
  have hG : Hid (∀ (A2 : Option Addr) (n2 c2 : Nat) (W : World), RdF W A2 n2 q → n2 ≤ 1048576 → Calls Tryz.prog 24 #[.slice A2 n2 c2, .string (bs Rg.rngP)] W fun x w' => x = .returned (.tuple #[.string (bs (Frs.getL q Rg.rngR)), .bool (!(valuesL q Rg.rngR).isEmpty)]) ∧ Below W.heap.size W w') := Lib.hid fun A2 n2 c2 W hr h2 => by
    have h := get_any A2 n2 c2 q Rg.rngP W hr h2 hqf (by decide)
    change Calls Tryz.prog 24 _ _ fun x w' => x = .returned (.tuple #[.string (bs (Frs.getL q Rg.rngP)), .bool (!(valuesL q Rg.rngP).isEmpty)]) ∧ _ at h
    rw [show Frs.getL q Rg.rngP = Frs.getL q Rg.rngR from Frs.get_name rfl, show valuesL q Rg.rngP = valuesL q Rg.rngR from valuesL_nameG rfl] at h
    exact h
  have hql := hq.1
  have hgj := Rg.get_sum q Rg.rngR
  have HKEEP : Hid (∀ (q2 : List Fld) (A1 : Option Addr) (n1 c1 : Nat) (A2 : Option Addr) (n2 c2 : Nat) (Y2 : Option Addr) (k2 e2 : Nat) (W : World), Below w.heap.size w W → RdF W A1 n1 q2 → n1 ≤ 1048576 → FlenS q2 → (Frs.getL q2 Rg.rngR).length ≤ 1073741824 → Rg.asIs q2 st l b → RdF W A2 n2 l → n2 ≤ 1048576 → OwnB W 0 (.slice Y2 k2 e2) b → k2 ≤ 1048576 →
      Calls Tryz.prog 17 #[.slice A1 n1 c1, .agg #[.int .i64 st, .string (bs rs), .int .i64 minor, .slice A2 n2 c2], .slice Y2 k2 e2] W fun x w' => ∃ A n c Y k e, x = .returned (.tuple #[.agg #[.int .i64 st, .string (bs rs), .int .i64 minor, .slice A n c], .slice Y k e]) ∧ OwnF w' W.heap.size (.slice A n c) l ∧ OwnB w' W.heap.size (.slice Y k e) b ∧ Below W.heap.size W w') := Lib.hid fun q2 A1 n1 c1 A2 n2 c2 Y2 k2 e2 W hW h1 h2 h3 h4 h5 h6 h7 h8 h9 =>
    apply_keep A1 n1 c1 q2 st rs minor A2 n2 c2 l Y2 k2 e2 b W (tab_b ht hW) (maxl_b hM hW) h1 h2 h3 h4 h6 h7 hlf h8.rd (by omega) h8.capB.1 h8.capB.2 h5
  have HSR : Hid (∀ (A1 : Option Addr) (n1 c1 : Nat) (W : World), Below w.heap.size w W → RdF W A1 n1 l → Calls Tryz.prog 19 #[.agg #[.int .i64 st, .string (bs rs), .int .i64 minor, .slice A1 n1 c1], .agg #[.int .i64 st, .string (bs rs), .int .i64 minor, .slice B m d]] W fun x w' => x = .returned (.bool true) ∧ Below W.heap.size W w') := Lib.hid fun A1 n1 c1 W hW h1 => sameResponse_any st rs minor A1 B n1 c1 m d l W h1 (hl.step hW) (by have := h1.1; have := hl.1; omega) (by omega)
  have HSB : Hid (∀ (Y1 : Option Addr) (k1 e1 : Nat) (W : World), Below w.heap.size w W → RdB W Y1 k1 b → Calls Tryz.prog 20 #[.slice Y1 k1 e1, .slice Y k e] W fun x w' => x = .returned (.bool true) ∧ Below W.heap.size W w') := Lib.hid fun Y1 k1 e1 W hW h1 => by
    have h := sameBytes_any Y1 Y k1 k e1 e b b W h1 (hb.step hW) (by have := h1.1; have := hb.1; omega) (by omega)
    rw [show (b == b) = true by simp] at h
    exact h
  have HQ : Hid (Rg.asIs (Rg.putF q Rg.irP tagT) 200 l b) := Lib.hid (whole_has q l b)
  have HQ1 : Hid ((Rg.putF q Rg.irP tagT).length ≤ n + 1) := Lib.hid (by
    have h1 : (withoutF q [Rg.irP]).length ≤ q.length := List.length_filter_le _ _
    unfold Rg.putF; rw [List.length_append]; simp only [List.length_cons, List.length_nil]; omega)
  have HQ2 : Hid (FlenS (Rg.putF q Rg.irP tagT)) := Lib.hid (fun f hf => by
    unfold Rg.putF at hf
    rcases List.mem_append.1 hf with h | h
    · exact hqf f (List.mem_filter.1 h).1
    · rw [List.mem_singleton] at h; subst h; exact ⟨by show Rg.irP.length ≤ _; decide, by show tagT.length ≤ _; decide⟩)
  have HQ3 : Hid ((Frs.getL (Rg.putF q Rg.irP tagT) Rg.rngR).length ≤ 1073741824) := Lib.hid (by
    have h1 := Rg.get_sum (Rg.putF q Rg.irP tagT) Rg.rngR
    have h2 := Rg.sum_put q Rg.irP tagT
    have h3 := HQ1.out
    have h4 : Rg.irP.length = 8 := rfl
    have h5 : tagT.length = 13 := rfl
    omega)
  have HW : Hid ((st ≠ 200 ∨ (!(valuesL q Rg.rngR).isEmpty) = false) → Rg.asIs q st l b) := Lib.hid (fun h => by
    rcases h with h | h
    · exact .inl h
    · exact .inr (.inl (by simpa using h)))
  have HFOK := Lib.hid (show FlenOK q from FlenS.ok hqf)
  have hqj2 : (Frs.getL q Rg.rngR).length ≤ 1073741824 := by omega
  generalize hPF : Rg.putF q Rg.irP tagT = PF at *
  have HPF := Lib.hid hPF
  clear hPF
  generalize hV : (Frs.getL q Rg.rngR) = V at *
  have HV := Lib.hid hV
  clear hV
  generalize (!(valuesL q Rg.rngR).isEmpty) = ve at *
  clear hls hqs hgj
  go_enter Tryz.func8, Tryz.ntmps8
  go_upto_region 1 with fail
  generalize w.alloc (.cells #[.int .i64 st, .string (bs rs), .int .i64 minor, .slice B m d] 31) = w1 at *
  go_wp2_with fail
  refine (hA.out _ (tab_b ht hb0) (maxl_b hM hb0)).mono ?_
  rintro xx w2 ⟨rfl, hb2⟩
  replace hr1 := row_keep hr1 hb2
  replace hb0 := bnext hb0 hb2 hb0.size
  clear hA hb2
  have hC := copyFields_own A n c q w2 (hq.step hb0) (by omega)
  go_wp2_with fail
  refine hC.mono ?_
  rintro xx w3 ⟨A3, n3, c3, rfl, hF3, hb3⟩
  clear hC
  replace hr1 := row_keep hr1 hb3
  replace hb0 := bnext hb0 hb3 hb0.size
  have hF3r := hF3.rd
  have hn3 : n3 ≤ 1048576 := by have := hF3r.1; omega
  clear hF3 hb3
  go_wp2_with fail
  refine (hG.out A3 n3 c3 w3 hF3r hn3).mono ?_
  rintro xx w4 ⟨rfl, hb4⟩
  replace hr1 := row_keep hr1 hb4
  replace hb0 := bnext hb0 hb4 hb0.size
  clear hG hF3r hn3 hb4
  obtain ⟨a0, a1, a2, a3, -⟩ := row_facts4 hr1
  have hlt0 : w.heap.size < w4.heap.size := heap_lt hr1
  by_cases hst : st = 200 ∧ ve = true
  · obtain ⟨h200, hve⟩ := hst
    subst h200 hve
    clear HW hqj2
    have hC := copyFields_own A n c q w4 (hq.step hb0) (by omega)
    go_wp2_with fail
    refine hC.mono ?_
    rintro xx w5 ⟨A5, n5, c5, rfl, hF5, hb5⟩
    clear hC a0 a1 a2 a3
    replace hr1 := row_keep hr1 hb5
    replace hb0 := bnext hb0 hb5 hb0.size
    have hF5r := hF5.rd
    have hn5 : n5 ≤ 1048576 := by have := hF5r.1; omega
    clear hF5 hb5
    have hC := put_p A5 n5 c5 q Rg.irP tagT w5 hF5r (by omega) HFOK.out (by decide)
    rw [HPF.out] at hC
    go_wp2_with fail
    refine hC.mono ?_
    rintro xx w6 ⟨A6, n6, c6, rfl, hF6, hb6⟩
    clear hC hF5r
    replace hr1 := row_keep hr1 hb6
    replace hb0 := bnext hb0 hb6 hb0.size
    have hF6r := hF6.rd
    have hn6 : n6 ≤ 1048576 := by have := hF6r.1; have := HQ1.out; omega
    clear hF6 hb6
    obtain ⟨a0, a1, a2, a3, -⟩ := row_facts4 hr1
    have hC := copyResponse_own 200 rs minor B m d l w6 (hl.step hb0) (by omega)
    unfold respV at hC
    go_wp2_with fail
    refine hC.mono ?_
    rintro xx w7 ⟨A7, n7, c7, rfl, hF7, hb7⟩
    clear hC a0 a1 a2 a3
    replace hr1 := row_keep hr1 hb7
    replace hb0 := bnext hb0 hb7 hb0.size
    replace hF6r := hF6r.step hb7
    have hF7r := hF7.rd
    have hn7 : n7 ≤ 1048576 := by have := hF7r.1; have := hl.1; omega
    clear hF7 hb7
    have hC := copyBytes_own Y k e b w7 (hb.step hb0) (by omega)
    go_wp2_with fail
    refine hC.mono ?_
    rintro xx w8 ⟨Y8, k8, e8, rfl, hB8, hb8⟩
    clear hC
    replace hr1 := row_keep hr1 hb8
    replace hb0 := bnext hb0 hb8 hb0.size
    replace hF6r := hF6r.step hb8
    replace hF7r := hF7r.step hb8
    have hk8 : k8 ≤ 1048576 := by have := hB8.rd.1; have := hb.1; omega
    clear hb8
    have hC := HKEEP.out PF A6 n6 c6 A7 n7 c7 Y8 k8 e8 w8 hb0 hF6r hn6 HQ2.out HQ3.out HQ.out hF7r hn7 (hB8.mono (by omega)) hk8
    go_wp2_with fail
    refine hC.mono ?_
    rintro xx w8b ⟨A9, n9, c9, Y9, k9, e9, rfl, hF9o, hB9o, hb9b⟩
    clear hC hF6r hF7r hB8
    have hr8 := row_keep hr1 hb9b
    replace hb0 := bnext hb0 hb9b hb0.size
    have hal := alloc_below w8b (.cells #[.int .i64 200, .string (bs rs), .int .i64 minor, .slice A9 n9 c9] 31)
    have hbx := heap_alloc_new w8b (.cells #[.int .i64 200, .string (bs rs), .int .i64 minor, .slice A9 n9 c9] 31)
    have hF9 := hF9o.rd.step hal
    have hB9 := hB9o.rd.step hal
    have hr9 := row_keep hr8 hal
    have hb9 := bnext hb0 hal hb0.size
    clear hF9o hB9o hb9b hr8 hal hr1 hb0
    go_upto_region 7 with fail
    generalize w8b.alloc (.cells #[.int .i64 200, .string (bs rs), .int .i64 minor, .slice A9 n9 c9] 31) = w9 at *
    generalize w8b.heap.size = g9 at *
    obtain ⟨s0, s1, s2, s3, -⟩ := row_facts4 hbx
    obtain ⟨a0, a1, a2, a3, -⟩ := row_facts4 hr9
    go_wp2_with fail
    refine (HSR.out A9 n9 c9 w9 hb9 hF9).mono ?_
    rintro xx w10 ⟨rfl, hb10⟩
    have hB10 := hB9.step hb10
    replace hb9 := bnext hb9 hb10 hb9.size
    clear hb10 s0 s1 s2 s3 a0 a1 a2 a3
    go_wp2_with fail
    refine (HSB.out Y9 k9 e9 w10 hb9 hB10).mono ?_
    rintro xx w11 ⟨rfl, hb11⟩
    replace hb9 := bnext hb9 hb11 hb9.size
    clear hb11
    go_wp2
    go_ret
    exact ⟨rfl, hb9⟩
  · have HAS := Lib.hid (HW.out (by
      by_cases h : st = 200
      · right
        cases ve with
        | true => exact absurd ⟨h, rfl⟩ hst
        | false => rfl
      · exact .inl h))
    by_cases h200 : st = 200
    · subst h200
      have hve : ve = false := by cases ve with
        | true => exact absurd ⟨rfl, rfl⟩ hst
        | false => rfl
      subst hve
      clear HPF HFOK HQ HQ1 HQ2 HQ3
      go_upto_region 8 with fail
      clear a0 a1 a2 a3
      obtain ⟨Bs, hBse⟩ : ∃ Bs, Bs = w4.heap.size := ⟨_, rfl⟩
      have hBs : Bs ≤ w4.heap.size := by omega
      have hBsw : w.heap.size ≤ Bs := by omega
      clear hBse
      have okq : TqOK 31 [tF 1 50 Bs q, tR 3 52 Bs 200 rs minor l, tB 5 54 Bs b, tP 6 55 Bs 200 rs minor l b, tP 7 48 Bs 200 rs minor l b, tR 8 56 Bs 200 rs minor l, tB 9 57 Bs b, tB 12 13 Bs b] := tF_q (tR_q (tB_q (tP_q (tP_q (tR_q (tB_q (tB_q TqOK.nil)))))))
      have HB : Hid (∀ W, Below w4.heap.size w4 W → Below w.heap.size w W) := Lib.hid fun W hW => bnext hb0 hW hb0.size
      have HK4 : Hid (∀ W, Below w4.heap.size w4 W → W.heap[w.heap.size]? = some (.cells #[.int .i64 200, .string (bs rs), .int .i64 minor, .slice B m d] 31 (0, 0))) := Lib.hid fun W hW => (hW.block w.heap.size hlt0).trans hr1
      refine DA.wp_region (n := 13) (V := fun iop uop => match iop with | 0 => uop = .slice A n c | 1 => ∃ (A : Option Addr) (n c : Nat), uop = .slice A n c | 2 => uop = .agg #[.int .i64 200, .string (bs rs), .int .i64 minor, .slice B m d] | 3 => ∃ (A : Option Addr) (n c : Nat), uop = .agg #[.int .i64 200, .string (bs rs), .int .i64 minor, .slice A n c] | 4 => uop = .slice Y k e | 5 => ∃ (A : Option Addr) (n c : Nat), uop = .slice A n c | 6 => ∃ (A : Option Addr) (n c : Nat) (Y : Option Addr) (k e : Nat), uop = .tuple #[.agg #[.int .i64 200, .string (bs rs), .int .i64 minor, .slice A n c], .slice Y k e] | 7 => ∃ (A : Option Addr) (n c : Nat) (Y : Option Addr) (k e : Nat), uop = .tuple #[.agg #[.int .i64 200, .string (bs rs), .int .i64 minor, .slice A n c], .slice Y k e] | 8 => ∃ (A : Option Addr) (n c : Nat), uop = .agg #[.int .i64 200, .string (bs rs), .int .i64 minor, .slice A n c] | 9 => ∃ (A : Option Addr) (n c : Nat), uop = .slice A n c | 10 => ∃ g : Nat, uop = .pointer (some ⟨g, 0, none⟩) | 11 => uop = undef | 12 => ∃ (A : Option Addr) (n c : Nat), uop = .slice A n c | _ => uop = undef) (S := SQ w4 66 ⟨10, 12, 11, 8, 56, #[.int .i64 0, .string ⟨#[]⟩, .int .i64 0, .slice none 0 0], fun v => v.cells, 31⟩ [tF 1 50 Bs q, tR 3 52 Bs 200 rs minor l, tB 5 54 Bs b, tP 6 55 Bs 200 rs minor l b, tP 7 48 Bs 200 rs minor l b, tR 8 56 Bs 200 rs minor l, tB 9 57 Bs b, tB 12 13 Bs b]) (by kernel_rfl) rfl (SQ.start rfl) ?_
      refine' DA.Det.takeE (i := 0) (v := _) rfl (fun _ => Iff.rfl) (by kernel_rfl) (by kernel_rfl) (by kernel_rfl) (DA.YS.pure rfl rfl ?rpz1_0 ?spz1_0) ?npz1_0
      case rpz1_0 => intro a' L W hS; go_simp; first | rfl | skip
      case spz1_0 => exact fun a' L W hL h => (SQ.other okq (by intro t ht; simp only [List.mem_cons, List.not_mem_nil, or_false] at ht; rcases ht with rfl | rfl | rfl | rfl | rfl | rfl | rfl | rfl <;> simp) (by decide) (by decide) (by simp) (by simp) hL h (Below.refl _ _))
      try simp only [Act.put, List.setIfInBounds_toArray, List.set_cons_zero, List.set_cons_succ]
      refine' DA.Det.takeL (i := 1) rfl ⟨_, none, 0, 0, rfl⟩ (by kernel_rfl) (by kernel_rfl) (by kernel_rfl) (callE (f := _) (args := _) rfl ?rpz1_1 ?cpz1_1) ?npz1_1
      case rpz1_1 => intro W; go_simp; constructor <;> rfl
      case cpz1_1 =>
        intro a' L W he hL hd hS
        refine (copyFields_own A n c q W (hq.step (HB.out W hS.grow)) (by omega)).mono ?_
        rintro xx w9 ⟨A9, n9, c9, rfl, ho9, hb9⟩
        exact ⟨_, rfl, ⟨A9, n9, c9, rfl⟩, SQ.made (tF 1 50 Bs q) okq (by intro t ht; simp only [List.mem_cons, List.not_mem_nil, or_false] at ht; rcases ht with rfl | rfl | rfl | rfl | rfl | rfl | rfl | rfl; exact .inl rfl; exact .inr (by simp); exact .inr (by simp); exact .inr (by simp); exact .inr (by simp); exact .inr (by simp); exact .inr (by simp); exact .inr (by simp)) (by simp) (by simp) (by simp) (by simp) (by simp) hL hS hb9 ⟨A9, n9, c9, rfl, ho9.mono (Nat.le_trans hBs hS.grow.size)⟩⟩
      rintro v1 ⟨Az1_1, nz1_1, cz1_1, rfl⟩
      try simp only [Act.put, List.setIfInBounds_toArray, List.set_cons_zero, List.set_cons_succ]
      refine' DA.Det.takeE (i := 2) (v := _) rfl (fun _ => Iff.rfl) (by kernel_rfl) (by kernel_rfl) (by kernel_rfl) (DA.YS.pure rfl rfl ?rpz1_2 ?spz1_2) ?npz1_2
      case rpz1_2 => intro a' L W hS; obtain ⟨k0, k1, k2, k3, -⟩ := row_facts4 (HK4.out W hS.grow); go_simp; first | rfl | skip
      case spz1_2 => exact fun a' L W hL h => (SQ.other okq (by intro t ht; simp only [List.mem_cons, List.not_mem_nil, or_false] at ht; rcases ht with rfl | rfl | rfl | rfl | rfl | rfl | rfl | rfl <;> simp) (by decide) (by decide) (by simp) (by simp) hL h (Below.refl _ _))
      try simp only [Act.put, List.setIfInBounds_toArray, List.set_cons_zero, List.set_cons_succ]
      refine' DA.Det.takeL (i := 3) rfl ⟨_, none, 0, 0, rfl⟩ (by kernel_rfl) (by kernel_rfl) (by kernel_rfl) (callE (f := _) (args := _) rfl ?rpz1_3 ?cpz1_3) ?npz1_3
      case rpz1_3 => intro W; go_simp; constructor <;> rfl
      case cpz1_3 =>
        intro a' L W he hL hd hS
        have hC := copyResponse_own 200 rs minor B m d l W (hl.step (HB.out W hS.grow)) (by omega)
        unfold respV at hC
        refine hC.mono ?_
        rintro xx w9 ⟨A9, n9, c9, rfl, ho9, hb9⟩
        exact ⟨_, rfl, ⟨A9, n9, c9, rfl⟩, SQ.made (tR 3 52 Bs 200 rs minor l) okq (by intro t ht; simp only [List.mem_cons, List.not_mem_nil, or_false] at ht; rcases ht with rfl | rfl | rfl | rfl | rfl | rfl | rfl | rfl; exact .inr (by simp); exact .inl rfl; exact .inr (by simp); exact .inr (by simp); exact .inr (by simp); exact .inr (by simp); exact .inr (by simp); exact .inr (by simp)) (by simp) (by simp) (by simp) (by simp) (by simp) hL hS hb9 ⟨A9, n9, c9, rfl, ho9.mono (Nat.le_trans hBs hS.grow.size)⟩⟩
      rintro v3 ⟨Az1_3, nz1_3, cz1_3, rfl⟩
      try simp only [Act.put, List.setIfInBounds_toArray, List.set_cons_zero, List.set_cons_succ]
      refine' DA.Det.takeE (i := 4) (v := _) rfl (fun _ => Iff.rfl) (by kernel_rfl) (by kernel_rfl) (by kernel_rfl) (DA.YS.pure rfl rfl ?rpz1_4 ?spz1_4) ?npz1_4
      case rpz1_4 => intro a' L W hS; go_simp; first | rfl | skip
      case spz1_4 => exact fun a' L W hL h => (SQ.other okq (by intro t ht; simp only [List.mem_cons, List.not_mem_nil, or_false] at ht; rcases ht with rfl | rfl | rfl | rfl | rfl | rfl | rfl | rfl <;> simp) (by decide) (by decide) (by simp) (by simp) hL h (Below.refl _ _))
      try simp only [Act.put, List.setIfInBounds_toArray, List.set_cons_zero, List.set_cons_succ]
      refine' DA.Det.takeL (i := 5) rfl ⟨_, none, 0, 0, rfl⟩ (by kernel_rfl) (by kernel_rfl) (by kernel_rfl) (callE (f := _) (args := _) rfl ?rpz1_5 ?cpz1_5) ?npz1_5
      case rpz1_5 => intro W; go_simp; constructor <;> rfl
      case cpz1_5 =>
        intro a' L W he hL hd hS
        refine (copyBytes_own Y k e b W (hb.step (HB.out W hS.grow)) (by omega)).mono ?_
        rintro xx w9 ⟨A9, n9, c9, rfl, ho9, hb9⟩
        exact ⟨_, rfl, ⟨A9, n9, c9, rfl⟩, SQ.made (tB 5 54 Bs b) okq (by intro t ht; simp only [List.mem_cons, List.not_mem_nil, or_false] at ht; rcases ht with rfl | rfl | rfl | rfl | rfl | rfl | rfl | rfl; exact .inr (by simp); exact .inr (by simp); exact .inl rfl; exact .inr (by simp); exact .inr (by simp); exact .inr (by simp); exact .inr (by simp); exact .inr (by simp)) (by simp) (by simp) (by simp) (by simp) (by simp) hL hS hb9 ⟨A9, n9, c9, rfl, ho9.mono (Nat.le_trans hBs hS.grow.size)⟩⟩
      rintro v5 ⟨Az1_5, nz1_5, cz1_5, rfl⟩
      try simp only [Act.put, List.setIfInBounds_toArray, List.set_cons_zero, List.set_cons_succ]
      refine' DA.Det.takeL (i := 6) rfl ⟨_, none, 0, 0, none, 0, 0, rfl⟩ (by kernel_rfl) (by kernel_rfl) (by kernel_rfl) (callE (f := _) (args := _) rfl ?rpz1_6 ?cpz1_6) ?npz1_6
      case rpz1_6 => intro W; go_simp; constructor <;> rfl
      case cpz1_6 =>
        intro a' L W he hL hd hS
        obtain ⟨x1, y1, z1, q1, o1⟩ := hS.see (t := tF 1 50 Bs q) (by simp) (hd ⟨1, .data⟩ (by simp) (by kernel_rfl)) (he (.tmp 50) (by simp [Op.operands, Call.operands])) (by simp [undef, Act.eval])
        obtain ⟨x3, y3, z3, q3, o3⟩ := hS.see (t := tR 3 52 Bs 200 rs minor l) (by simp) (hd ⟨3, .data⟩ (by simp) (by kernel_rfl)) (he (.tmp 52) (by simp [Op.operands, Call.operands])) (by simp [undef, Act.eval])
        obtain ⟨x5, y5, z5, q5, o5⟩ := hS.see (t := tB 5 54 Bs b) (by simp) (hd ⟨5, .data⟩ (by simp) (by kernel_rfl)) (he (.tmp 54) (by simp [Op.operands, Call.operands])) (by simp [undef, Act.eval])
        have q1' : (Value.slice Az1_1 nz1_1 cz1_1) = .slice x1 y1 z1 := q1
        have q3' : (Value.agg #[.int .i64 200, .string (bs rs), .int .i64 minor, .slice Az1_3 nz1_3 cz1_3]) = .agg #[.int .i64 200, .string (bs rs), .int .i64 minor, .slice x3 y3 z3] := q3
        have q5' : (Value.slice Az1_5 nz1_5 cz1_5) = .slice x5 y5 z5 := q5
        simp only [Value.slice.injEq, Value.agg.injEq, Array.mk.injEq, List.cons.injEq, and_true, true_and] at q1' q3' q5'
        obtain ⟨rfl, rfl, rfl⟩ := q1'
        obtain ⟨rfl, rfl, rfl⟩ := q3'
        obtain ⟨rfl, rfl, rfl⟩ := q5'
        refine (HKEEP.out q _ _ _ _ _ _ _ _ _ W (HB.out W hS.grow) o1.rd (by have := o1.rd.1; omega) hqf (by rw [HV.out]; exact hqj2) HAS.out o3.rd (by have := o3.rd.1; have := hl.1; omega) (o5.mono (by omega)) (by have := o5.rd.1; have := hb.1; omega)).mono ?_
        rintro xx w9 ⟨A9, n9, c9, Y9, k9, e9, rfl, ho9, hp9, hb9⟩
        exact ⟨_, rfl, ⟨A9, n9, c9, Y9, k9, e9, rfl⟩, SQ.made (tP 6 55 Bs 200 rs minor l b) okq (by intro t ht; simp only [List.mem_cons, List.not_mem_nil, or_false] at ht; rcases ht with rfl | rfl | rfl | rfl | rfl | rfl | rfl | rfl; exact .inr (by simp); exact .inr (by simp); exact .inr (by simp); exact .inl rfl; exact .inr (by simp); exact .inr (by simp); exact .inr (by simp); exact .inr (by simp)) (by simp) (by simp) (by simp) (by simp) (by simp) hL hS hb9 ⟨A9, n9, c9, Y9, k9, e9, rfl, ho9.mono (Nat.le_trans hBs hS.grow.size), hp9.mono (Nat.le_trans hBs hS.grow.size)⟩⟩
      rintro v6 ⟨Az1_6, nz1_6, cz1_6, Yz1_6, kz1_6, ez1_6, rfl⟩
      try simp only [Act.put, List.setIfInBounds_toArray, List.set_cons_zero, List.set_cons_succ]
      refine' DA.Det.takeL (i := 7) rfl ⟨_, none, 0, 0, none, 0, 0, rfl⟩ (by kernel_rfl) (by kernel_rfl) (by kernel_rfl) (pureE (v := _) rfl ?rpz1_7 ?cpz1_7) ?npz1_7
      case rpz1_7 => intro W; go_simp; first | rfl | skip
      case cpz1_7 =>
        intro a' L W he hL hd hS
        obtain ⟨x1, y1, z1, x2, y2, z2, q1, o1, o2⟩ := hS.see (t := tP 6 55 Bs 200 rs minor l b) (by simp) (hd ⟨6, .data⟩ (by simp) (by kernel_rfl)) (he (.tmp 55) (by simp [Op.operands, Call.operands])) (by simp [undef, Act.eval])
        have q1' : (Value.tuple #[.agg #[.int .i64 200, .string (bs rs), .int .i64 minor, .slice Az1_6 nz1_6 cz1_6], .slice Yz1_6 kz1_6 ez1_6]) = .tuple #[.agg #[.int .i64 200, .string (bs rs), .int .i64 minor, .slice x1 y1 z1], .slice x2 y2 z2] := q1
        simp only [Value.slice.injEq, Value.agg.injEq, Value.tuple.injEq, Array.mk.injEq, List.cons.injEq, and_true, true_and] at q1'
        obtain ⟨⟨rfl, rfl, rfl⟩, rfl, rfl, rfl⟩ := q1'
        exact ⟨⟨_, _, _, _, _, _, rfl⟩, SQ.made (tP 7 48 Bs 200 rs minor l b) okq (by intro t ht; simp only [List.mem_cons, List.not_mem_nil, or_false] at ht; rcases ht with rfl | rfl | rfl | rfl | rfl | rfl | rfl | rfl; exact .inr (by simp); exact .inr (by simp); exact .inr (by simp); exact .inr (by simp); exact .inl rfl; exact .inr (by simp); exact .inr (by simp); exact .inr (by simp)) (by simp) (by simp) (by simp) (by simp) (by simp) hL hS (Below.refl _ _) ⟨_, _, _, _, _, _, rfl, o1, o2⟩⟩
      rintro v7 ⟨Az1_7, nz1_7, cz1_7, Yz1_7, kz1_7, ez1_7, rfl⟩
      try simp only [Act.put, List.setIfInBounds_toArray, List.set_cons_zero, List.set_cons_succ]
      refine' DA.Det.takeL (i := 8) rfl ⟨_, none, 0, 0, rfl⟩ (by kernel_rfl) (by kernel_rfl) (by kernel_rfl) (pureE (v := _) rfl ?rpz1_8 ?cpz1_8) ?npz1_8
      case rpz1_8 => intro W; go_simp; first | rfl | skip
      case cpz1_8 =>
        intro a' L W he hL hd hS
        obtain ⟨x1, y1, z1, x2, y2, z2, q1, o1, o2⟩ := hS.see (t := tP 7 48 Bs 200 rs minor l b) (by simp) (hd ⟨7, .data⟩ (by simp) (by kernel_rfl)) (he (.tmp 48) (by simp [Op.operands, Call.operands])) (by simp [undef, Act.eval])
        have q1' : (Value.tuple #[.agg #[.int .i64 200, .string (bs rs), .int .i64 minor, .slice Az1_7 nz1_7 cz1_7], .slice Yz1_7 kz1_7 ez1_7]) = .tuple #[.agg #[.int .i64 200, .string (bs rs), .int .i64 minor, .slice x1 y1 z1], .slice x2 y2 z2] := q1
        simp only [Value.slice.injEq, Value.agg.injEq, Value.tuple.injEq, Array.mk.injEq, List.cons.injEq, and_true, true_and] at q1'
        obtain ⟨⟨rfl, rfl, rfl⟩, rfl, rfl, rfl⟩ := q1'
        exact ⟨⟨_, _, _, rfl⟩, SQ.made (tR 8 56 Bs 200 rs minor l) okq (by intro t ht; simp only [List.mem_cons, List.not_mem_nil, or_false] at ht; rcases ht with rfl | rfl | rfl | rfl | rfl | rfl | rfl | rfl; exact .inr (by simp); exact .inr (by simp); exact .inr (by simp); exact .inr (by simp); exact .inr (by simp); exact .inl rfl; exact .inr (by simp); exact .inr (by simp)) (by simp) (by simp) (by simp) (by simp) (by simp) hL hS (Below.refl _ _) ⟨_, _, _, rfl, o1⟩⟩
      rintro v8 ⟨Az1_8, nz1_8, cz1_8, rfl⟩
      try simp only [Act.put, List.setIfInBounds_toArray, List.set_cons_zero, List.set_cons_succ]
      refine' DA.Det.takeL (i := 9) rfl ⟨_, none, 0, 0, rfl⟩ (by kernel_rfl) (by kernel_rfl) (by kernel_rfl) (pureE (v := _) rfl ?rpz1_9 ?cpz1_9) ?npz1_9
      case rpz1_9 => intro W; go_simp; first | rfl | skip
      case cpz1_9 =>
        intro a' L W he hL hd hS
        obtain ⟨x1, y1, z1, x2, y2, z2, q1, o1, o2⟩ := hS.see (t := tP 7 48 Bs 200 rs minor l b) (by simp) (hd ⟨7, .data⟩ (by simp) (by kernel_rfl)) (he (.tmp 48) (by simp [Op.operands, Call.operands])) (by simp [undef, Act.eval])
        have q1' : (Value.tuple #[.agg #[.int .i64 200, .string (bs rs), .int .i64 minor, .slice Az1_7 nz1_7 cz1_7], .slice Yz1_7 kz1_7 ez1_7]) = .tuple #[.agg #[.int .i64 200, .string (bs rs), .int .i64 minor, .slice x1 y1 z1], .slice x2 y2 z2] := q1
        simp only [Value.slice.injEq, Value.agg.injEq, Value.tuple.injEq, Array.mk.injEq, List.cons.injEq, and_true, true_and] at q1'
        obtain ⟨⟨rfl, rfl, rfl⟩, rfl, rfl, rfl⟩ := q1'
        exact ⟨⟨_, _, _, rfl⟩, SQ.made (tB 9 57 Bs b) okq (by intro t ht; simp only [List.mem_cons, List.not_mem_nil, or_false] at ht; rcases ht with rfl | rfl | rfl | rfl | rfl | rfl | rfl | rfl; exact .inr (by simp); exact .inr (by simp); exact .inr (by simp); exact .inr (by simp); exact .inr (by simp); exact .inr (by simp); exact .inl rfl; exact .inr (by simp)) (by simp) (by simp) (by simp) (by simp) (by simp) hL hS (Below.refl _ _) ⟨_, _, _, rfl, o2⟩⟩
      rintro v9 ⟨Az1_9, nz1_9, cz1_9, rfl⟩
      try simp only [Act.put, List.setIfInBounds_toArray, List.set_cons_zero, List.set_cons_succ]
      refine' DA.Det.takeL (i := 10) rfl ⟨_, 0, rfl⟩ (by kernel_rfl) (by kernel_rfl) (by kernel_rfl) (DA.YS.make (v := fun W => .pointer (some ⟨W.heap.size, 0, none⟩)) (f := fun W => W.alloc (.cells #[.int .i64 0, .string ⟨#[]⟩, .int .i64 0, .slice none 0 0] 31)) rfl ?rpz1_10 ?cpz1_10) ?npz1_10
      case rpz1_10 => intro W; go_simp; first | rfl | skip
      case cpz1_10 =>
        intro a' L W hL hS
        exact ⟨⟨_, rfl⟩, SQ.boxed okq (by intro t ht; simp only [List.mem_cons, List.not_mem_nil, or_false] at ht; rcases ht with rfl | rfl | rfl | rfl | rfl | rfl | rfl | rfl <;> simp) (by simp) (by simp) (by simp) hL hS⟩
      rintro v10 ⟨gz1_, rfl⟩
      try simp only [Act.put, List.setIfInBounds_toArray, List.set_cons_zero, List.set_cons_succ]
      refine' DA.Det.takeE (i := 11) (v := undef) rfl (fun _ => Iff.rfl) (by kernel_rfl) (by kernel_rfl) (by kernel_rfl) (.inl ⟨rfl, ?rpz1_11⟩) ?npz1_11
      case rpz1_11 =>
        intro a' L W he hL hd hS
        have h10 := hd ⟨10, .data⟩ (by simp) (by kernel_rfl)
        have h8 := hd ⟨8, .data⟩ (by simp) (by kernel_rfl)
        obtain ⟨hg1, hg2, hg3⟩ := hS.seebox (g := gz1_) h10 (DA.getD_un hL) (he (.tmp 12) (by simp [Op.operands, Call.operands]))
        obtain ⟨z0, z1, z2, z3, y0, y1, y2, y3⟩ := row_facts4 hg3
        have hf := SQ.stored (v := undef) (u0 := .int .i64 200) (u1 := .string (bs rs)) (u2 := .int .i64 minor) (u3 := .slice Az1_8 nz1_8 cz1_8) okq (by intro t ht; simp only [List.mem_cons, List.not_mem_nil, or_false] at ht; rcases ht with rfl | rfl | rfl | rfl | rfl | rfl | rfl | rfl <;> simp) (by simp) (by simp) hL h10 h8 hS rfl rfl (slot_val (he (.tmp 56) (by simp [Op.operands, Call.operands])) (by simp [undef, Act.eval])) (slot_val (he (.tmp 12) (by simp [Op.operands, Call.operands])) (by simp [undef, Act.eval]))
        exact DA.runs_skip (by first | (go_simp; done) | (go_simp; rfl)) rfl hf
      try simp only [Act.put, List.setIfInBounds_toArray, List.set_cons_zero, List.set_cons_succ]
      refine' DA.Det.takeL (i := 12) rfl ⟨_, none, 0, 0, rfl⟩ (by kernel_rfl) (by kernel_rfl) (by kernel_rfl) (pureE (v := _) rfl ?rpz1_12 ?cpz1_12) ?npz1_12
      case rpz1_12 => intro W; go_simp; first | rfl | skip
      case cpz1_12 =>
        intro a' L W he hL hd hS
        obtain ⟨x2, y2, z2, q1, o2⟩ := hS.see (t := tB 9 57 Bs b) (by simp) (hd ⟨9, .data⟩ (by simp) (by kernel_rfl)) (he (.tmp 57) (by simp [Op.operands, Call.operands])) (by simp [undef, Act.eval])
        have q1' : (Value.slice Az1_9 nz1_9 cz1_9) = .slice x2 y2 z2 := q1
        simp only [Value.slice.injEq, Value.agg.injEq, Value.tuple.injEq, Array.mk.injEq, List.cons.injEq, and_true, true_and] at q1'
        obtain ⟨rfl, rfl, rfl⟩ := q1'
        exact ⟨⟨_, _, _, rfl⟩, SQ.made (tB 12 13 Bs b) okq (by intro t ht; simp only [List.mem_cons, List.not_mem_nil, or_false] at ht; rcases ht with rfl | rfl | rfl | rfl | rfl | rfl | rfl | rfl; exact .inr (by simp); exact .inr (by simp); exact .inr (by simp); exact .inr (by simp); exact .inr (by simp); exact .inr (by simp); exact .inr (by simp); exact .inl rfl) (by simp) (by simp) (by simp) (by simp) (by simp) hL hS (Below.refl _ _) ⟨_, _, _, rfl, o2⟩⟩
      rintro v12 ⟨Az1_12, nz1_12, cz1_12, rfl⟩
      try simp only [Act.put, List.setIfInBounds_toArray, List.set_cons_zero, List.set_cons_succ]
      refine DA.Det.done (by kernel_rfl) (fun W hS => ?_) _
      obtain ⟨g9, e12, hg1, hg2, -, hbx5⟩ := hS.box rfl
      obtain ⟨u8, e56, hbx⟩ := hbx5 rfl
      have e12' : (Value.pointer (some ⟨gz1_, 0, none⟩)) = .pointer (some ⟨g9, 0, none⟩) := Option.some.inj e12
      obtain rfl : gz1_ = g9 := by simpa using e12'
      have e56' : (Value.agg #[.int .i64 200, .string (bs rs), .int .i64 minor, .slice Az1_8 nz1_8 cz1_8]) = u8 := Option.some.inj e56
      subst e56'
      have hbx : W.heap[gz1_]? = some (.cells #[.int .i64 200, .string (bs rs), .int .i64 minor, .slice Az1_8 nz1_8 cz1_8] 31 (0, 0)) := hbx
      obtain ⟨v8, e8, x1, y1, z1, q8, o8⟩ := hS.row (tR 8 56 Bs 200 rs minor l) (by simp) rfl
      have e8' : (Value.agg #[.int .i64 200, .string (bs rs), .int .i64 minor, .slice Az1_8 nz1_8 cz1_8]) = v8 := Option.some.inj e8
      subst q8
      simp only [Value.agg.injEq, Array.mk.injEq, List.cons.injEq, Value.slice.injEq, and_true, true_and] at e8'
      obtain ⟨rfl, rfl, rfl⟩ := e8'
      obtain ⟨v12, e13, x2, y2, z2, q12, o12⟩ := hS.row (tB 12 13 Bs b) (by simp) rfl
      have e13' : (Value.slice Az1_12 nz1_12 cz1_12) = v12 := Option.some.inj e13
      subst q12
      simp only [Value.slice.injEq] at e13'
      obtain ⟨rfl, rfl, rfl⟩ := e13'
      have hb9 := HB.out W hS.grow
      have hr9 := HK4.out W hS.grow
      have hF9 := o8.rd
      have hB9 := o12.rd
      clear hS e12 e12' e56 e8 e13 hbx5 o8 o12 HB HK4 hr1 hb0 hlt0 okq
      obtain ⟨s0, s1, s2, s3, -⟩ := row_facts4 hbx
      obtain ⟨a0, a1, a2, a3, -⟩ := row_facts4 hr9
      go_wp2_with fail
      refine (HSR.out Az1_8 nz1_8 cz1_8 W hb9 hF9).mono ?_
      rintro xx w10 ⟨rfl, hb10⟩
      have hB10 := hB9.step hb10
      replace hb9 := bnext hb9 hb10 hb9.size
      clear hb10 s0 s1 s2 s3 a0 a1 a2 a3
      go_wp2_with fail
      refine (HSB.out Az1_12 nz1_12 cz1_12 w10 hb9 hB10).mono ?_
      rintro xx w11 ⟨rfl, hb11⟩
      replace hb9 := bnext hb9 hb11 hb9.size
      clear hb11
      go_wp2
      go_ret
      exact ⟨rfl, hb9⟩
    · have hst1 : (st == 200) = false := by rw [beq_eq_false_iff_ne]; exact h200
      clear HPF HFOK HQ HQ1 HQ2 HQ3
      go_upto_region 8 with fail
      clear a0 a1 a2 a3
      obtain ⟨Bs, hBse⟩ : ∃ Bs, Bs = w4.heap.size := ⟨_, rfl⟩
      have hBs : Bs ≤ w4.heap.size := by omega
      have hBsw : w.heap.size ≤ Bs := by omega
      clear hBse
      have okq : TqOK 31 [tF 1 50 Bs q, tR 3 52 Bs st rs minor l, tB 5 54 Bs b, tP 6 55 Bs st rs minor l b, tP 7 48 Bs st rs minor l b, tR 8 56 Bs st rs minor l, tB 9 57 Bs b, tB 12 13 Bs b] := tF_q (tR_q (tB_q (tP_q (tP_q (tR_q (tB_q (tB_q TqOK.nil)))))))
      have HB : Hid (∀ W, Below w4.heap.size w4 W → Below w.heap.size w W) := Lib.hid fun W hW => bnext hb0 hW hb0.size
      have HK4 : Hid (∀ W, Below w4.heap.size w4 W → W.heap[w.heap.size]? = some (.cells #[.int .i64 st, .string (bs rs), .int .i64 minor, .slice B m d] 31 (0, 0))) := Lib.hid fun W hW => (hW.block w.heap.size hlt0).trans hr1
      refine DA.wp_region (n := 13) (V := fun iop uop => match iop with | 0 => uop = .slice A n c | 1 => ∃ (A : Option Addr) (n c : Nat), uop = .slice A n c | 2 => uop = .agg #[.int .i64 st, .string (bs rs), .int .i64 minor, .slice B m d] | 3 => ∃ (A : Option Addr) (n c : Nat), uop = .agg #[.int .i64 st, .string (bs rs), .int .i64 minor, .slice A n c] | 4 => uop = .slice Y k e | 5 => ∃ (A : Option Addr) (n c : Nat), uop = .slice A n c | 6 => ∃ (A : Option Addr) (n c : Nat) (Y : Option Addr) (k e : Nat), uop = .tuple #[.agg #[.int .i64 st, .string (bs rs), .int .i64 minor, .slice A n c], .slice Y k e] | 7 => ∃ (A : Option Addr) (n c : Nat) (Y : Option Addr) (k e : Nat), uop = .tuple #[.agg #[.int .i64 st, .string (bs rs), .int .i64 minor, .slice A n c], .slice Y k e] | 8 => ∃ (A : Option Addr) (n c : Nat), uop = .agg #[.int .i64 st, .string (bs rs), .int .i64 minor, .slice A n c] | 9 => ∃ (A : Option Addr) (n c : Nat), uop = .slice A n c | 10 => ∃ g : Nat, uop = .pointer (some ⟨g, 0, none⟩) | 11 => uop = undef | 12 => ∃ (A : Option Addr) (n c : Nat), uop = .slice A n c | _ => uop = undef) (S := SQ w4 66 ⟨10, 12, 11, 8, 56, #[.int .i64 0, .string ⟨#[]⟩, .int .i64 0, .slice none 0 0], fun v => v.cells, 31⟩ [tF 1 50 Bs q, tR 3 52 Bs st rs minor l, tB 5 54 Bs b, tP 6 55 Bs st rs minor l b, tP 7 48 Bs st rs minor l b, tR 8 56 Bs st rs minor l, tB 9 57 Bs b, tB 12 13 Bs b]) (by kernel_rfl) rfl (SQ.start rfl) ?_
      refine' DA.Det.takeE (i := 0) (v := _) rfl (fun _ => Iff.rfl) (by kernel_rfl) (by kernel_rfl) (by kernel_rfl) (DA.YS.pure rfl rfl ?rpz2_0 ?spz2_0) ?npz2_0
      case rpz2_0 => intro a' L W hS; go_simp; first | rfl | skip
      case spz2_0 => exact fun a' L W hL h => (SQ.other okq (by intro t ht; simp only [List.mem_cons, List.not_mem_nil, or_false] at ht; rcases ht with rfl | rfl | rfl | rfl | rfl | rfl | rfl | rfl <;> simp) (by decide) (by decide) (by simp) (by simp) hL h (Below.refl _ _))
      try simp only [Act.put, List.setIfInBounds_toArray, List.set_cons_zero, List.set_cons_succ]
      refine' DA.Det.takeL (i := 1) rfl ⟨_, none, 0, 0, rfl⟩ (by kernel_rfl) (by kernel_rfl) (by kernel_rfl) (callE (f := _) (args := _) rfl ?rpz2_1 ?cpz2_1) ?npz2_1
      case rpz2_1 => intro W; go_simp; constructor <;> rfl
      case cpz2_1 =>
        intro a' L W he hL hd hS
        refine (copyFields_own A n c q W (hq.step (HB.out W hS.grow)) (by omega)).mono ?_
        rintro xx w9 ⟨A9, n9, c9, rfl, ho9, hb9⟩
        exact ⟨_, rfl, ⟨A9, n9, c9, rfl⟩, SQ.made (tF 1 50 Bs q) okq (by intro t ht; simp only [List.mem_cons, List.not_mem_nil, or_false] at ht; rcases ht with rfl | rfl | rfl | rfl | rfl | rfl | rfl | rfl; exact .inl rfl; exact .inr (by simp); exact .inr (by simp); exact .inr (by simp); exact .inr (by simp); exact .inr (by simp); exact .inr (by simp); exact .inr (by simp)) (by simp) (by simp) (by simp) (by simp) (by simp) hL hS hb9 ⟨A9, n9, c9, rfl, ho9.mono (Nat.le_trans hBs hS.grow.size)⟩⟩
      rintro v1 ⟨Az2_1, nz2_1, cz2_1, rfl⟩
      try simp only [Act.put, List.setIfInBounds_toArray, List.set_cons_zero, List.set_cons_succ]
      refine' DA.Det.takeE (i := 2) (v := _) rfl (fun _ => Iff.rfl) (by kernel_rfl) (by kernel_rfl) (by kernel_rfl) (DA.YS.pure rfl rfl ?rpz2_2 ?spz2_2) ?npz2_2
      case rpz2_2 => intro a' L W hS; obtain ⟨k0, k1, k2, k3, -⟩ := row_facts4 (HK4.out W hS.grow); go_simp; first | rfl | skip
      case spz2_2 => exact fun a' L W hL h => (SQ.other okq (by intro t ht; simp only [List.mem_cons, List.not_mem_nil, or_false] at ht; rcases ht with rfl | rfl | rfl | rfl | rfl | rfl | rfl | rfl <;> simp) (by decide) (by decide) (by simp) (by simp) hL h (Below.refl _ _))
      try simp only [Act.put, List.setIfInBounds_toArray, List.set_cons_zero, List.set_cons_succ]
      refine' DA.Det.takeL (i := 3) rfl ⟨_, none, 0, 0, rfl⟩ (by kernel_rfl) (by kernel_rfl) (by kernel_rfl) (callE (f := _) (args := _) rfl ?rpz2_3 ?cpz2_3) ?npz2_3
      case rpz2_3 => intro W; go_simp; constructor <;> rfl
      case cpz2_3 =>
        intro a' L W he hL hd hS
        have hC := copyResponse_own st rs minor B m d l W (hl.step (HB.out W hS.grow)) (by omega)
        unfold respV at hC
        refine hC.mono ?_
        rintro xx w9 ⟨A9, n9, c9, rfl, ho9, hb9⟩
        exact ⟨_, rfl, ⟨A9, n9, c9, rfl⟩, SQ.made (tR 3 52 Bs st rs minor l) okq (by intro t ht; simp only [List.mem_cons, List.not_mem_nil, or_false] at ht; rcases ht with rfl | rfl | rfl | rfl | rfl | rfl | rfl | rfl; exact .inr (by simp); exact .inl rfl; exact .inr (by simp); exact .inr (by simp); exact .inr (by simp); exact .inr (by simp); exact .inr (by simp); exact .inr (by simp)) (by simp) (by simp) (by simp) (by simp) (by simp) hL hS hb9 ⟨A9, n9, c9, rfl, ho9.mono (Nat.le_trans hBs hS.grow.size)⟩⟩
      rintro v3 ⟨Az2_3, nz2_3, cz2_3, rfl⟩
      try simp only [Act.put, List.setIfInBounds_toArray, List.set_cons_zero, List.set_cons_succ]
      refine' DA.Det.takeE (i := 4) (v := _) rfl (fun _ => Iff.rfl) (by kernel_rfl) (by kernel_rfl) (by kernel_rfl) (DA.YS.pure rfl rfl ?rpz2_4 ?spz2_4) ?npz2_4
      case rpz2_4 => intro a' L W hS; go_simp; first | rfl | skip
      case spz2_4 => exact fun a' L W hL h => (SQ.other okq (by intro t ht; simp only [List.mem_cons, List.not_mem_nil, or_false] at ht; rcases ht with rfl | rfl | rfl | rfl | rfl | rfl | rfl | rfl <;> simp) (by decide) (by decide) (by simp) (by simp) hL h (Below.refl _ _))
      try simp only [Act.put, List.setIfInBounds_toArray, List.set_cons_zero, List.set_cons_succ]
      refine' DA.Det.takeL (i := 5) rfl ⟨_, none, 0, 0, rfl⟩ (by kernel_rfl) (by kernel_rfl) (by kernel_rfl) (callE (f := _) (args := _) rfl ?rpz2_5 ?cpz2_5) ?npz2_5
      case rpz2_5 => intro W; go_simp; constructor <;> rfl
      case cpz2_5 =>
        intro a' L W he hL hd hS
        refine (copyBytes_own Y k e b W (hb.step (HB.out W hS.grow)) (by omega)).mono ?_
        rintro xx w9 ⟨A9, n9, c9, rfl, ho9, hb9⟩
        exact ⟨_, rfl, ⟨A9, n9, c9, rfl⟩, SQ.made (tB 5 54 Bs b) okq (by intro t ht; simp only [List.mem_cons, List.not_mem_nil, or_false] at ht; rcases ht with rfl | rfl | rfl | rfl | rfl | rfl | rfl | rfl; exact .inr (by simp); exact .inr (by simp); exact .inl rfl; exact .inr (by simp); exact .inr (by simp); exact .inr (by simp); exact .inr (by simp); exact .inr (by simp)) (by simp) (by simp) (by simp) (by simp) (by simp) hL hS hb9 ⟨A9, n9, c9, rfl, ho9.mono (Nat.le_trans hBs hS.grow.size)⟩⟩
      rintro v5 ⟨Az2_5, nz2_5, cz2_5, rfl⟩
      try simp only [Act.put, List.setIfInBounds_toArray, List.set_cons_zero, List.set_cons_succ]
      refine' DA.Det.takeL (i := 6) rfl ⟨_, none, 0, 0, none, 0, 0, rfl⟩ (by kernel_rfl) (by kernel_rfl) (by kernel_rfl) (callE (f := _) (args := _) rfl ?rpz2_6 ?cpz2_6) ?npz2_6
      case rpz2_6 => intro W; go_simp; constructor <;> rfl
      case cpz2_6 =>
        intro a' L W he hL hd hS
        obtain ⟨x1, y1, z1, q1, o1⟩ := hS.see (t := tF 1 50 Bs q) (by simp) (hd ⟨1, .data⟩ (by simp) (by kernel_rfl)) (he (.tmp 50) (by simp [Op.operands, Call.operands])) (by simp [undef, Act.eval])
        obtain ⟨x3, y3, z3, q3, o3⟩ := hS.see (t := tR 3 52 Bs st rs minor l) (by simp) (hd ⟨3, .data⟩ (by simp) (by kernel_rfl)) (he (.tmp 52) (by simp [Op.operands, Call.operands])) (by simp [undef, Act.eval])
        obtain ⟨x5, y5, z5, q5, o5⟩ := hS.see (t := tB 5 54 Bs b) (by simp) (hd ⟨5, .data⟩ (by simp) (by kernel_rfl)) (he (.tmp 54) (by simp [Op.operands, Call.operands])) (by simp [undef, Act.eval])
        have q1' : (Value.slice Az2_1 nz2_1 cz2_1) = .slice x1 y1 z1 := q1
        have q3' : (Value.agg #[.int .i64 st, .string (bs rs), .int .i64 minor, .slice Az2_3 nz2_3 cz2_3]) = .agg #[.int .i64 st, .string (bs rs), .int .i64 minor, .slice x3 y3 z3] := q3
        have q5' : (Value.slice Az2_5 nz2_5 cz2_5) = .slice x5 y5 z5 := q5
        simp only [Value.slice.injEq, Value.agg.injEq, Array.mk.injEq, List.cons.injEq, and_true, true_and] at q1' q3' q5'
        obtain ⟨rfl, rfl, rfl⟩ := q1'
        obtain ⟨rfl, rfl, rfl⟩ := q3'
        obtain ⟨rfl, rfl, rfl⟩ := q5'
        refine (HKEEP.out q _ _ _ _ _ _ _ _ _ W (HB.out W hS.grow) o1.rd (by have := o1.rd.1; omega) hqf (by rw [HV.out]; exact hqj2) HAS.out o3.rd (by have := o3.rd.1; have := hl.1; omega) (o5.mono (by omega)) (by have := o5.rd.1; have := hb.1; omega)).mono ?_
        rintro xx w9 ⟨A9, n9, c9, Y9, k9, e9, rfl, ho9, hp9, hb9⟩
        exact ⟨_, rfl, ⟨A9, n9, c9, Y9, k9, e9, rfl⟩, SQ.made (tP 6 55 Bs st rs minor l b) okq (by intro t ht; simp only [List.mem_cons, List.not_mem_nil, or_false] at ht; rcases ht with rfl | rfl | rfl | rfl | rfl | rfl | rfl | rfl; exact .inr (by simp); exact .inr (by simp); exact .inr (by simp); exact .inl rfl; exact .inr (by simp); exact .inr (by simp); exact .inr (by simp); exact .inr (by simp)) (by simp) (by simp) (by simp) (by simp) (by simp) hL hS hb9 ⟨A9, n9, c9, Y9, k9, e9, rfl, ho9.mono (Nat.le_trans hBs hS.grow.size), hp9.mono (Nat.le_trans hBs hS.grow.size)⟩⟩
      rintro v6 ⟨Az2_6, nz2_6, cz2_6, Yz2_6, kz2_6, ez2_6, rfl⟩
      try simp only [Act.put, List.setIfInBounds_toArray, List.set_cons_zero, List.set_cons_succ]
      refine' DA.Det.takeL (i := 7) rfl ⟨_, none, 0, 0, none, 0, 0, rfl⟩ (by kernel_rfl) (by kernel_rfl) (by kernel_rfl) (pureE (v := _) rfl ?rpz2_7 ?cpz2_7) ?npz2_7
      case rpz2_7 => intro W; go_simp; first | rfl | skip
      case cpz2_7 =>
        intro a' L W he hL hd hS
        obtain ⟨x1, y1, z1, x2, y2, z2, q1, o1, o2⟩ := hS.see (t := tP 6 55 Bs st rs minor l b) (by simp) (hd ⟨6, .data⟩ (by simp) (by kernel_rfl)) (he (.tmp 55) (by simp [Op.operands, Call.operands])) (by simp [undef, Act.eval])
        have q1' : (Value.tuple #[.agg #[.int .i64 st, .string (bs rs), .int .i64 minor, .slice Az2_6 nz2_6 cz2_6], .slice Yz2_6 kz2_6 ez2_6]) = .tuple #[.agg #[.int .i64 st, .string (bs rs), .int .i64 minor, .slice x1 y1 z1], .slice x2 y2 z2] := q1
        simp only [Value.slice.injEq, Value.agg.injEq, Value.tuple.injEq, Array.mk.injEq, List.cons.injEq, and_true, true_and] at q1'
        obtain ⟨⟨rfl, rfl, rfl⟩, rfl, rfl, rfl⟩ := q1'
        exact ⟨⟨_, _, _, _, _, _, rfl⟩, SQ.made (tP 7 48 Bs st rs minor l b) okq (by intro t ht; simp only [List.mem_cons, List.not_mem_nil, or_false] at ht; rcases ht with rfl | rfl | rfl | rfl | rfl | rfl | rfl | rfl; exact .inr (by simp); exact .inr (by simp); exact .inr (by simp); exact .inr (by simp); exact .inl rfl; exact .inr (by simp); exact .inr (by simp); exact .inr (by simp)) (by simp) (by simp) (by simp) (by simp) (by simp) hL hS (Below.refl _ _) ⟨_, _, _, _, _, _, rfl, o1, o2⟩⟩
      rintro v7 ⟨Az2_7, nz2_7, cz2_7, Yz2_7, kz2_7, ez2_7, rfl⟩
      try simp only [Act.put, List.setIfInBounds_toArray, List.set_cons_zero, List.set_cons_succ]
      refine' DA.Det.takeL (i := 8) rfl ⟨_, none, 0, 0, rfl⟩ (by kernel_rfl) (by kernel_rfl) (by kernel_rfl) (pureE (v := _) rfl ?rpz2_8 ?cpz2_8) ?npz2_8
      case rpz2_8 => intro W; go_simp; first | rfl | skip
      case cpz2_8 =>
        intro a' L W he hL hd hS
        obtain ⟨x1, y1, z1, x2, y2, z2, q1, o1, o2⟩ := hS.see (t := tP 7 48 Bs st rs minor l b) (by simp) (hd ⟨7, .data⟩ (by simp) (by kernel_rfl)) (he (.tmp 48) (by simp [Op.operands, Call.operands])) (by simp [undef, Act.eval])
        have q1' : (Value.tuple #[.agg #[.int .i64 st, .string (bs rs), .int .i64 minor, .slice Az2_7 nz2_7 cz2_7], .slice Yz2_7 kz2_7 ez2_7]) = .tuple #[.agg #[.int .i64 st, .string (bs rs), .int .i64 minor, .slice x1 y1 z1], .slice x2 y2 z2] := q1
        simp only [Value.slice.injEq, Value.agg.injEq, Value.tuple.injEq, Array.mk.injEq, List.cons.injEq, and_true, true_and] at q1'
        obtain ⟨⟨rfl, rfl, rfl⟩, rfl, rfl, rfl⟩ := q1'
        exact ⟨⟨_, _, _, rfl⟩, SQ.made (tR 8 56 Bs st rs minor l) okq (by intro t ht; simp only [List.mem_cons, List.not_mem_nil, or_false] at ht; rcases ht with rfl | rfl | rfl | rfl | rfl | rfl | rfl | rfl; exact .inr (by simp); exact .inr (by simp); exact .inr (by simp); exact .inr (by simp); exact .inr (by simp); exact .inl rfl; exact .inr (by simp); exact .inr (by simp)) (by simp) (by simp) (by simp) (by simp) (by simp) hL hS (Below.refl _ _) ⟨_, _, _, rfl, o1⟩⟩
      rintro v8 ⟨Az2_8, nz2_8, cz2_8, rfl⟩
      try simp only [Act.put, List.setIfInBounds_toArray, List.set_cons_zero, List.set_cons_succ]
      refine' DA.Det.takeL (i := 9) rfl ⟨_, none, 0, 0, rfl⟩ (by kernel_rfl) (by kernel_rfl) (by kernel_rfl) (pureE (v := _) rfl ?rpz2_9 ?cpz2_9) ?npz2_9
      case rpz2_9 => intro W; go_simp; first | rfl | skip
      case cpz2_9 =>
        intro a' L W he hL hd hS
        obtain ⟨x1, y1, z1, x2, y2, z2, q1, o1, o2⟩ := hS.see (t := tP 7 48 Bs st rs minor l b) (by simp) (hd ⟨7, .data⟩ (by simp) (by kernel_rfl)) (he (.tmp 48) (by simp [Op.operands, Call.operands])) (by simp [undef, Act.eval])
        have q1' : (Value.tuple #[.agg #[.int .i64 st, .string (bs rs), .int .i64 minor, .slice Az2_7 nz2_7 cz2_7], .slice Yz2_7 kz2_7 ez2_7]) = .tuple #[.agg #[.int .i64 st, .string (bs rs), .int .i64 minor, .slice x1 y1 z1], .slice x2 y2 z2] := q1
        simp only [Value.slice.injEq, Value.agg.injEq, Value.tuple.injEq, Array.mk.injEq, List.cons.injEq, and_true, true_and] at q1'
        obtain ⟨⟨rfl, rfl, rfl⟩, rfl, rfl, rfl⟩ := q1'
        exact ⟨⟨_, _, _, rfl⟩, SQ.made (tB 9 57 Bs b) okq (by intro t ht; simp only [List.mem_cons, List.not_mem_nil, or_false] at ht; rcases ht with rfl | rfl | rfl | rfl | rfl | rfl | rfl | rfl; exact .inr (by simp); exact .inr (by simp); exact .inr (by simp); exact .inr (by simp); exact .inr (by simp); exact .inr (by simp); exact .inl rfl; exact .inr (by simp)) (by simp) (by simp) (by simp) (by simp) (by simp) hL hS (Below.refl _ _) ⟨_, _, _, rfl, o2⟩⟩
      rintro v9 ⟨Az2_9, nz2_9, cz2_9, rfl⟩
      try simp only [Act.put, List.setIfInBounds_toArray, List.set_cons_zero, List.set_cons_succ]
      refine' DA.Det.takeL (i := 10) rfl ⟨_, 0, rfl⟩ (by kernel_rfl) (by kernel_rfl) (by kernel_rfl) (DA.YS.make (v := fun W => .pointer (some ⟨W.heap.size, 0, none⟩)) (f := fun W => W.alloc (.cells #[.int .i64 0, .string ⟨#[]⟩, .int .i64 0, .slice none 0 0] 31)) rfl ?rpz2_10 ?cpz2_10) ?npz2_10
      case rpz2_10 => intro W; go_simp; first | rfl | skip
      case cpz2_10 =>
        intro a' L W hL hS
        exact ⟨⟨_, rfl⟩, SQ.boxed okq (by intro t ht; simp only [List.mem_cons, List.not_mem_nil, or_false] at ht; rcases ht with rfl | rfl | rfl | rfl | rfl | rfl | rfl | rfl <;> simp) (by simp) (by simp) (by simp) hL hS⟩
      rintro v10 ⟨gz2_, rfl⟩
      try simp only [Act.put, List.setIfInBounds_toArray, List.set_cons_zero, List.set_cons_succ]
      refine' DA.Det.takeE (i := 11) (v := undef) rfl (fun _ => Iff.rfl) (by kernel_rfl) (by kernel_rfl) (by kernel_rfl) (.inl ⟨rfl, ?rpz2_11⟩) ?npz2_11
      case rpz2_11 =>
        intro a' L W he hL hd hS
        have h10 := hd ⟨10, .data⟩ (by simp) (by kernel_rfl)
        have h8 := hd ⟨8, .data⟩ (by simp) (by kernel_rfl)
        obtain ⟨hg1, hg2, hg3⟩ := hS.seebox (g := gz2_) h10 (DA.getD_un hL) (he (.tmp 12) (by simp [Op.operands, Call.operands]))
        obtain ⟨z0, z1, z2, z3, y0, y1, y2, y3⟩ := row_facts4 hg3
        have hf := SQ.stored (v := undef) (u0 := .int .i64 st) (u1 := .string (bs rs)) (u2 := .int .i64 minor) (u3 := .slice Az2_8 nz2_8 cz2_8) okq (by intro t ht; simp only [List.mem_cons, List.not_mem_nil, or_false] at ht; rcases ht with rfl | rfl | rfl | rfl | rfl | rfl | rfl | rfl <;> simp) (by simp) (by simp) hL h10 h8 hS rfl rfl (slot_val (he (.tmp 56) (by simp [Op.operands, Call.operands])) (by simp [undef, Act.eval])) (slot_val (he (.tmp 12) (by simp [Op.operands, Call.operands])) (by simp [undef, Act.eval]))
        exact DA.runs_skip (by first | (go_simp; done) | (go_simp; rfl)) rfl hf
      try simp only [Act.put, List.setIfInBounds_toArray, List.set_cons_zero, List.set_cons_succ]
      refine' DA.Det.takeL (i := 12) rfl ⟨_, none, 0, 0, rfl⟩ (by kernel_rfl) (by kernel_rfl) (by kernel_rfl) (pureE (v := _) rfl ?rpz2_12 ?cpz2_12) ?npz2_12
      case rpz2_12 => intro W; go_simp; first | rfl | skip
      case cpz2_12 =>
        intro a' L W he hL hd hS
        obtain ⟨x2, y2, z2, q1, o2⟩ := hS.see (t := tB 9 57 Bs b) (by simp) (hd ⟨9, .data⟩ (by simp) (by kernel_rfl)) (he (.tmp 57) (by simp [Op.operands, Call.operands])) (by simp [undef, Act.eval])
        have q1' : (Value.slice Az2_9 nz2_9 cz2_9) = .slice x2 y2 z2 := q1
        simp only [Value.slice.injEq, Value.agg.injEq, Value.tuple.injEq, Array.mk.injEq, List.cons.injEq, and_true, true_and] at q1'
        obtain ⟨rfl, rfl, rfl⟩ := q1'
        exact ⟨⟨_, _, _, rfl⟩, SQ.made (tB 12 13 Bs b) okq (by intro t ht; simp only [List.mem_cons, List.not_mem_nil, or_false] at ht; rcases ht with rfl | rfl | rfl | rfl | rfl | rfl | rfl | rfl; exact .inr (by simp); exact .inr (by simp); exact .inr (by simp); exact .inr (by simp); exact .inr (by simp); exact .inr (by simp); exact .inr (by simp); exact .inl rfl) (by simp) (by simp) (by simp) (by simp) (by simp) hL hS (Below.refl _ _) ⟨_, _, _, rfl, o2⟩⟩
      rintro v12 ⟨Az2_12, nz2_12, cz2_12, rfl⟩
      try simp only [Act.put, List.setIfInBounds_toArray, List.set_cons_zero, List.set_cons_succ]
      refine DA.Det.done (by kernel_rfl) (fun W hS => ?_) _
      obtain ⟨g9, e12, hg1, hg2, -, hbx5⟩ := hS.box rfl
      obtain ⟨u8, e56, hbx⟩ := hbx5 rfl
      have e12' : (Value.pointer (some ⟨gz2_, 0, none⟩)) = .pointer (some ⟨g9, 0, none⟩) := Option.some.inj e12
      obtain rfl : gz2_ = g9 := by simpa using e12'
      have e56' : (Value.agg #[.int .i64 st, .string (bs rs), .int .i64 minor, .slice Az2_8 nz2_8 cz2_8]) = u8 := Option.some.inj e56
      subst e56'
      have hbx : W.heap[gz2_]? = some (.cells #[.int .i64 st, .string (bs rs), .int .i64 minor, .slice Az2_8 nz2_8 cz2_8] 31 (0, 0)) := hbx
      obtain ⟨v8, e8, x1, y1, z1, q8, o8⟩ := hS.row (tR 8 56 Bs st rs minor l) (by simp) rfl
      have e8' : (Value.agg #[.int .i64 st, .string (bs rs), .int .i64 minor, .slice Az2_8 nz2_8 cz2_8]) = v8 := Option.some.inj e8
      subst q8
      simp only [Value.agg.injEq, Array.mk.injEq, List.cons.injEq, Value.slice.injEq, and_true, true_and] at e8'
      obtain ⟨rfl, rfl, rfl⟩ := e8'
      obtain ⟨v12, e13, x2, y2, z2, q12, o12⟩ := hS.row (tB 12 13 Bs b) (by simp) rfl
      have e13' : (Value.slice Az2_12 nz2_12 cz2_12) = v12 := Option.some.inj e13
      subst q12
      simp only [Value.slice.injEq] at e13'
      obtain ⟨rfl, rfl, rfl⟩ := e13'
      have hb9 := HB.out W hS.grow
      have hr9 := HK4.out W hS.grow
      have hF9 := o8.rd
      have hB9 := o12.rd
      clear hS e12 e12' e56 e8 e13 hbx5 o8 o12 HB HK4 hr1 hb0 hlt0 okq
      obtain ⟨s0, s1, s2, s3, -⟩ := row_facts4 hbx
      obtain ⟨a0, a1, a2, a3, -⟩ := row_facts4 hr9
      go_wp2_with fail
      refine (HSR.out Az2_8 nz2_8 cz2_8 W hb9 hF9).mono ?_
      rintro xx w10 ⟨rfl, hb10⟩
      have hB10 := hB9.step hb10
      replace hb9 := bnext hb9 hb10 hb9.size
      clear hb10 s0 s1 s2 s3 a0 a1 a2 a3
      go_wp2_with fail
      refine (HSB.out Az2_12 nz2_12 cz2_12 w10 hb9 hB10).mono ?_
      rintro xx w11 ⟨rfl, hb11⟩
      replace hb9 := bnext hb9 hb11 hb9.size
      clear hb11
      go_wp2
      go_ret
      exact ⟨rfl, hb9⟩

theorem tab_of {W : World} (h : laidMet Tryz.prog Rows.rangesWholeUptoRow.laid W) : Tab W :=
  Lib.tabIs_of_head (t := 167) (e := 137) (n := 20) (g := 2) (by kernel_rfl) (by kernel_rfl) (by kernel_rfl) (by kernel_rfl) (by kernel_rfl) (by kernel_rfl) ((h).tail).tail
theorem own : ownKnob Tryz.prog.godebug = none := by kernel_rfl
theorem contract (H : Type) (enc : TypeId × Value → H) (W : World) (base : Nat) (args : Array Value) (ds gs : List (DataW H)) (before : List MemPlace)
    (hval : ∀ (j : Nat) t v, Tryz.f8.params[j]? = some t → args[j]? = some v → Value.okWide Tryz.prog W .any base t v)
    (hW : DataW.Whole enc Tryz.prog Tryz.f8.params.toList Rows.rangesWholeSpec.vars false W args.toList ds gs before) (hk : Rows.uptoSmall H (ds ++ gs) = true) (htab : Tab W) (hmax : MaxL W) :
    Calls Tryz.prog 8 args W fun e W' => ∃ v, e = .returned v ∧ Rows.rangesWholeSpec.post enc Tryz.prog Tryz.f8 false true false false W args v W' := by
  have hW' := hW
  obtain ⟨p, q, hA0, hV, rfl, hfz, hnd⟩ := hW
  have hA : DataW.TrodAll enc Tryz.prog W 0 (fun _ => true) true Tryz.f8.params.toList args.toList ds p := hA0
  rw [Tryz.params8] at hA hval
  obtain ⟨v0, vs0, d0, ds0, p0, q0, hargs, rfl, rfl, h0, r0⟩ := trodAll_cons hA
  obtain ⟨v1, vs1, d1, ds1, p1, q1, rfl, rfl, rfl, h1, r1⟩ := trodAll_cons r0
  obtain ⟨v2, vs2, d2, ds2, p2, q2, rfl, rfl, rfl, h2, r2⟩ := trodAll_cons r1
  obtain ⟨rfl, rfl, rfl⟩ := trodAll_nil r2
  obtain rfl : args = #[v0, v1, v2] := by cases args; simp_all
  obtain ⟨rfl, rfl⟩ := trodVars_none hV
  have hall := bulks.bound hk
  simp only [List.append_nil, Rows.uptoBulkAll] at hall
  have hb0 : Rows.uptoBulk d0 ≤ 1048576 := by omega
  have hb1 : Rows.uptoBulk d1 ≤ 1048576 := by omega
  have hb2 : Rows.uptoBulk d2 ≤ 1048576 := by omega
  clear hall
  obtain ⟨A0, n0, c0, l0, rfl, hr0, hn0, hf0, hc0, hd0, hs0⟩ := opFS (hval 0 29 v0 rfl rfl) h0 hb0
  obtain ⟨st1, rs1, x1, A1, n1, c1, l1, rfl, hr1, hn1, hf1, hc1, hd1, hs1, hu1, hv1⟩ := opRespS (hval 1 31 v1 rfl rfl) h1 hb1
  obtain ⟨Y2, k2, y2, b2, rfl, hr2, hn2, hc2, hd2⟩ := opBytesA (hval 2 32 v2 rfl rfl) h2 hb2
  clear hA0
  refine (walk W htab hmax A0 n0 c0 l0 hr0 hn0 hf0 hs0 st1 rs1 x1 A1 n1 c1 l1 hr1 hn1 hf1 hs1 Y2 k2 y2 b2 hr2 hn2 hc2 hd2).mono fun e W' ⟨he, hg⟩ => ?_
  subst he
  exact ⟨_, rfl, post_of_below (pa := p0 ++ (p1 ++ (p2 ++ ([])))) (pv := []) hW' (fun _ _ _ => (trodAll_cons_mk (shut_bool Tryz.underlying4 _) trodAll_mk0)) (fun sp hsp => (trodAll_cons_mk (arg_stays laidOut (by kernel_rfl) (of_decide_eq_true (by kernel_rfl)) h0 hg (fun x hx => hW'.lt x (by simp [hx])) sp (fun x hx => hsp x (by simp [hx]))) (trodAll_cons_mk (arg_stays laidOut (by kernel_rfl) (of_decide_eq_true (by kernel_rfl)) h1 hg (fun x hx => hW'.lt x (by simp [hx])) sp (fun x hx => hsp x (by simp [hx]))) (trodAll_cons_mk (arg_stays laidOut (by kernel_rfl) (of_decide_eq_true (by kernel_rfl)) h2 hg (fun x hx => hW'.lt x (by simp [hx])) sp (fun x hx => hsp x (by simp [hx]))) trodAll_mk0)))) (fun _ _ => rfl) rfl
    hg (ok_one (by kernel_rfl) rfl (okWide_bool_mk Tryz.underlying4 _))⟩

/-- A world for the witness: the listed variables hold what the program lays. -/
noncomputable def laidWorld (os : Os) : World := World.laidAll Tryz.prog os Rows.rangesWholeUptoRow.laid
set_option maxRecDepth 1000000 in
theorem laid_met (os : Os) : laidMet Tryz.prog Rows.rangesWholeUptoRow.laid ((laidWorld os).forCall (fun _ _ => 0) ⟨#[], #[.slice none 0 0, .agg #[.int .i64 0, .string ⟨#[]⟩, .int .i64 0, .slice none 0 0], .slice none 0 0], []⟩).memory :=
  laidMet_laidAll _ (by kernel_rfl) (by kernel_rfl)

theorem reads (os : Os) {H : Type} (enc : TypeId × Value → H) : ∃ places, DataW.whole enc Tryz.prog ((laidWorld os).forCall (fun _ _ => 0) ⟨#[], #[.slice none 0 0, .agg #[.int .i64 0, .string ⟨#[]⟩, .int .i64 0, .slice none 0 0], .slice none 0 0], []⟩).memory Tryz.f8.params.toList Rows.rangesWholeSpec.vars false #[.slice none 0 0, .agg #[.int .i64 0, .string ⟨#[]⟩, .int .i64 0, .slice none 0 0], .slice none 0 0].toList 8 = some ([.nil, .agg [.lit (.int .i64 0), .lit (.string []), .lit (.int .i64 0), .nil], .nil], [], places) :=
  ⟨[], by kernel_rfl⟩

set_option maxRecDepth 100000 in
theorem liftedUpto (os : Os) (started : os.Started) (H : Type) (enc : TypeId × Value → H) (F : Stop.Interp) :
    ReturnsInHanded {} Tryz.checked os 8 .any ((Rows.OpenSpec.upto Rows.rangesWholeSpec).preRow enc Tryz.prog Tryz.f8 Rows.rangesWholeUptoRow.domain false Rows.rangesWholeUptoRow.laid) (((Rows.OpenSpec.upto Rows.rangesWholeSpec).at F).post enc Tryz.prog Tryz.f8 false true false false) := by
  obtain ⟨places, hx⟩ := reads os enc
  refine returnsInHanded_of_row (C := Tryz.checked) (s := Rows.OpenSpec.upto Rows.rangesWholeSpec) own started (by kernel_rfl) Tryz.func8
    (witness_row_atRef (enc := enc) (C := Tryz.checked) false (laidWorld os) #[.slice none 0 0, .agg #[.int .i64 0, .string ⟨#[]⟩, .int .i64 0, .slice none 0 0], .slice none 0 0] (World.laidAll_os _ _ _) (by kernel_rfl) (by kernel_rfl) (by kernel_rfl)
      (OpenSpec.preRow_of_cond 8 hx (by kernel_rfl) (fun k hk => by cases hk; kernel_rfl) (by kernel_rfl) (laid_met os))) ?_
  intro W base args ds gs before hval hW g1 hcond g2 g3 g4 g5
  exact contract H enc W base args ds gs before hval hW (hcond _ rfl) (by first | exact tab_of g2 | exact tab_of g3 | exact tab_of g4 | exact tab_of g5 | exact tab_of g1) (by first | exact maxl_of g4 | exact maxl_of g3 | exact maxl_of g2 | exact maxl_of g5 | exact maxl_of g1)

theorem saidUpto : Rows.RangesWholeUptoSaid :=
  OpenClaim.holds_of_cond 8 Tryz.f8 rfl rfl rfl rfl rfl rfl rfl ⟨rfl, rfl, rfl, rfl, rfl⟩ rfl rfl rfl rfl rfl (by kernel_rfl) Tryz.func8 (by kernel_rfl)
    (of_decide_eq_true (by kernel_rfl)) (by unfold Func.isWrapper; first | (rw [if_pos (by decide +kernel)]; kernel_rfl) | (rw [if_neg (by decide +kernel)]; exact ⟨rfl, rfl⟩))
    (fun os started H enc _ F => by rw [OpenClaim.pre_eq_preRow]; exact liftedUpto os started H enc F)

theorem plain (f : FuncId) (fn : Func) (hf : Tryz.pinned.checked.prog.funcNamed "conduit/conduitlaw19.RangesWhole" = some f) (hfn : Tryz.pinned.checked.prog.funcs[f]? = some fn) :
    true = Tryz.pinned.checked.prog.looks [] ∧ ∀ (j : Nat) t, fn.params[j]? = some t → Tryz.pinned.checked.prog.wantsStandIn t = false := by
  obtain rfl : f = 8 := Option.some.inj ((show Tryz.prog.funcNamed "conduit/conduitlaw19.RangesWhole" = some 8 by kernel_rfl).symm.trans hf) |>.symm
  obtain rfl : fn = Tryz.f8 := (Option.some.inj (Tryz.func8.symm.trans hfn)).symm
  refine ⟨by kernel_rfl, fun j t ht => ?_⟩
  rw [Tryz.params8] at ht
  have hm := Array.mem_of_getElem? ht
  simp only [List.mem_toArray, List.mem_cons, List.not_mem_nil, or_false] at hm
  rcases hm with rfl | rfl | rfl
  · exact (show Tryz.prog.wantsStandIn 29 = false by kernel_rfl)
  · exact (show Tryz.prog.wantsStandIn 31 = false by kernel_rfl)
  · exact (show Tryz.prog.wantsStandIn 32 = false by kernel_rfl)

theorem proved : Rows.RangesWholeUptoCardSaid :=
  Claim7.holds_tied_plain_at .later [] _ _ _ _ saidUpto (fun _ h => by cases h) (by kernel_rfl) (fun _ h => by cases h) rangesWholeUpto_row_tie rfl ⟨rfl, rfl⟩ (by kernel_rfl) rfl plain (by kernel_rfl)
end Go.Proofs.YtcaekfebnhedpaaGreatDoor.rangesWhole
