/- Joined texts: The laws' arguments opened: texts, fields. From the form's reading to 'bs', 'RdF'; no conditions but the bound of the second form; An ask as an argument; Texts as an argument. The conditions stand in each line. -/
import Derived.Test.YtgkphjbcaidcpaaGreatDoorM2
import Derived.Test.YtgkphjbcaidcpaaGreatDoorM9
import Derived.Test.YtgkphjbcaidcpaaGreatDoorM23
import Derived.Test.YtgkphjbcaidcpaaGreatDoorM24
import Derived.Deep.SlicePairs
import Derived.ProofKit
import Derived.OpenShut
import Derived.SizedLaws
import Derived.JoinedCond
import Derived.SliceStrings
set_option linter.unusedVariables false
set_option linter.unusedSimpArgs false
set_option maxRecDepth 100000
namespace Go.Proofs.YtgkphjbcaidcpaaGreatDoor
open Go.ChangeShapes Go.WideShapes Go.ChangeAt Go.RowKit Go.Deep

/-- An argument reads as it did where below the old heap all stands. -/
theorem arg_stays {H : Type} {enc : TypeId × Value → H} {P : Program} {t : TypeId} (hl : laidOutB P = true) (hr : P.readableRec t = true) (hrow : t < P.types.size) {W W' : World} {v : Value} {d : DataW H} {ps : List MemPlace}
    (h : DataW.Trod enc P W 0 (fun _ => true) true t v d ps) (hb : Below W.heap.size W W') (hlt : ∀ x ∈ ps, x.block < W.heap.size) (sp : Nat → Bool) (hsp : ∀ x ∈ ps, sp x.block = true) :
    DataW.Trod enc P W' 0 sp true t v d ps :=
  WideElems.Trod_stays hl hr hrow h (fun x hx => hb.same (hlt x hx)) hsp
theorem laidOut : laidOutB Tryz.prog = true := by kernel_rfl

theorem str_of_trod {H : Type} {enc : TypeId × Value → H} {W : World} {base : Nat} {sp : Nat → Bool} {n : Nat} {v : Value} {d : DataW H} {ps : List MemPlace}
    (h : DataW.trod enc Tryz.prog W base sp true n 9 [v] = some (d, ps)) : ∃ l : List UInt8, v = .string (bs l) ∧ d = .lit (.string l) := by
  obtain ⟨s, e1, e2⟩ := DataW.trod_string Tryz.underlying9 h
  simp at e1 e2
  obtain ⟨⟨rfl, _⟩, _⟩ := e2
  exact ⟨s.data.toList, e1, rfl⟩
/-- A text as an argument. -/
theorem opS {H : Type} {enc : TypeId × Value → H} {W : World} {base : Nat} {v : Value} {d : DataW H} {ps : List MemPlace} (hv : Value.okWide Tryz.prog W .any base 9 v)
    (h : DataW.Trod enc Tryz.prog W 0 (fun _ => true) true 9 v d ps) : ∃ l : List UInt8, v = .string (bs l) ∧ d = .lit (.string l) := by
  obtain ⟨s, rfl, rfl, _, _⟩ := Go.ChangeMaps.open_string Tryz.underlying9 hv h
  exact ⟨s.data.toList, rfl, rfl⟩
/-- A number as an argument. -/
theorem opI {H : Type} {enc : TypeId × Value → H} {W : World} {base : Nat} {v : Value} {d : DataW H} {ps : List MemPlace} (hv : Value.okWide Tryz.prog W .any base 3 v)
    (h : DataW.Trod enc Tryz.prog W 0 (fun _ => true) true 3 v d ps) : ∃ n : Int, v = .int .i64 n ∧ -9223372036854775808 ≤ n ∧ n ≤ 9223372036854775807 := by
  obtain ⟨n, rfl, _, _, wf⟩ := open_int Tryz.underlying3 hv h
  refine ⟨n, rfl, ?_⟩
  simpa [Lit.wf, IntKind.min, IntKind.max, IntKind.signed, IntKind.bits] using wf
theorem spot_of_cell {w : World} {a : Addr} {v : Value} (h : w.cell? a = some v) : a.spot = none := by
  unfold World.cell? at h
  split at h
  · split at h
    · cases h
    · rename_i h'; simpa using h'
  · cases h
end Go.Proofs.YtgkphjbcaidcpaaGreatDoor
set_option linter.unusedVariables false
set_option linter.unusedSimpArgs false
namespace Go.Proofs.YtgkphjbcaidcpaaGreatDoor
open Go.RowKit

set_option maxRecDepth 100000
open Go.ChangeShapes Go.WideShapes Go.ChangeAt Go.RowKit Go.Deep
/-- A struct by value, opened: each field's cells with their reading. -/
theorem open_aggN {H : Type} {enc : TypeId × Value → H} {P : Program} {W : World} {base b0 : Nat} {sp : Nat → Bool} {held : Bool} {r : Reach} {t : TypeId} {fs : Array Field} {v : Value} {d : DataW H} {p : List MemPlace} (hs : P.underlying t = some (.struct fs))
    (hv : Value.okWide P W r b0 t v) (h : DataW.Trod enc P W base sp held t v d p) :
    ∃ (vs : Array Value) (ys : List (DataW H × List MemPlace)) (n : Nat), v = .agg vs ∧ vs.size = P.cellsOf t ∧ d = .agg (ys.map (·.1)) ∧ ys.length = fs.size ∧
      ∀ (i : Nat) (f : Field), fs[i]? = some f → ∃ y, ys[i]? = some y ∧ DataW.trod enc P W base sp held n f.type ((vs.toList.drop f.offset).take (P.cellsOf f.type)) = some y := by
  obtain ⟨cs, rfl, hsz⟩ := okWide_struct hs hv
  obtain ⟨fuel, hf⟩ := h
  obtain ⟨xs, n, _, hx, _, hlen, hall⟩ := DataW.trod_struct hs hf
  simp only [Prod.mk.injEq] at hx
  refine ⟨cs, xs, n, rfl, hsz, hx.1, hlen, fun i f hi => ?_⟩
  have hlt : i < xs.length := by rw [hlen]; exact (Array.getElem?_eq_some_iff.1 hi).1
  refine ⟨xs[i], List.getElem?_eq_getElem hlt, ?_⟩
  rw [← List.getElem?_eq_getElem hlt]
  simpa [Value.cells] using hall i f hi
theorem fields_of {fs : Array Field} {k : List (TypeId × Nat)} (h : fs.toList.map (fun f => (f.type, f.offset)) = k) {i : Nat} {t : TypeId} {o : Nat} (hk : k[i]? = some (t, o)) : ∃ f, fs[i]? = some f ∧ f.type = t ∧ f.offset = o := by
  subst h
  rw [List.getElem?_map] at hk
  cases hf : fs.toList[i]? with
  | none => rw [hf] at hk; cases hk
  | some f =>
    rw [hf] at hk
    simp at hk
    exact ⟨f, by simpa using hf, hk.1, hk.2⟩
theorem ys6 {α : Type} {l : List α} (h : l.length = 6) : ∃ a b c d e f, l = [a, b, c, d, e, f] := by
  match l, h with
  | [a, b, c, d, e, f], _ => exact ⟨a, b, c, d, e, f, rfl⟩
theorem int_of_trod {H : Type} {enc : TypeId × Value → H} {W : World} {base : Nat} {sp : Nat → Bool} {n : Nat} {v : Value} {d : DataW H} {ps : List MemPlace}
    (h : DataW.trod enc Tryz.prog W base sp true n 3 [v] = some (d, ps)) : ∃ i : Int, v = .int .i64 i ∧ -9223372036854775808 ≤ i ∧ i ≤ 9223372036854775807 ∧ d = .lit (.int .i64 i) := by
  obtain ⟨i, e1, e2, wf⟩ := DataW.trod_int Tryz.underlying3 h
  simp at e1 e2
  obtain ⟨rfl, _⟩ := e2
  refine ⟨i, e1, ?_, ?_, rfl⟩ <;> simp [Lit.wf, IntKind.min, IntKind.max, IntKind.signed, IntKind.bits] at wf <;> omega
theorem array6 {α : Type} {cs : Array α} (h : cs.size = 6) : ∃ c0 c1 c2 c3 c4 c5, cs = #[c0, c1, c2, c3, c4, c5] := by
  obtain ⟨l⟩ := cs
  match l, h with
  | [c0, c1, c2, c3, c4, c5], _ => exact ⟨c0, c1, c2, c3, c4, c5, rfl⟩
theorem ask_desc : Tryz.prog.underlying 37 = some (.struct (Tryz.prog.fieldsOf 37)) := by kernel_rfl
theorem ask_shape : (Tryz.prog.fieldsOf 37).toList.map (fun f => (f.type, f.offset)) = [(3, 0), (9, 1), (3, 2), (9, 3), (9, 4), (3, 5)] := by kernel_rfl
theorem ask_cells : Tryz.prog.cellsOf 37 = 6 := by kernel_rfl
theorem askStr_cells : Tryz.prog.cellsOf 9 = 1 := by kernel_rfl
theorem askInt_cells : Tryz.prog.cellsOf 3 = 1 := by kernel_rfl
/-- An ask as an argument. -/
theorem opAsk {H : Type} {enc : TypeId × Value → H} {W : World} {base : Nat} {v : Value} {d : DataW H} {ps : List MemPlace} {b : Nat} (hv : Value.okWide Tryz.prog W .any base 37 v)
    (h : DataW.Trod enc Tryz.prog W 0 (fun _ => true) true 37 v d ps) (hb : Rows.uptoBulk d ≤ b) :
    ∃ a : Ac.Ask, v = askV a ∧ a.host.length ≤ b ∧ a.meth.length ≤ b ∧ a.path.length ≤ b ∧ -9223372036854775808 ≤ a.now ∧ a.now ≤ 9223372036854775807 := by
  obtain ⟨vs, ys, n, rfl, hsz, rfl, hlen, hall⟩ := open_aggN ask_desc hv h
  rw [ask_cells] at hsz
  obtain ⟨c0, c1, c2, c3, c4, c5, rfl⟩ := array6 hsz
  have hfs : (Tryz.prog.fieldsOf 37).size = 6 := by have := congrArg List.length ask_shape; simpa using this
  rw [hfs] at hlen
  obtain ⟨y0, y1, y2, y3, y4, y5, rfl⟩ := ys6 hlen
  have key : ∀ i t o, [((3 : TypeId), 0), (9, 1), (3, 2), (9, 3), (9, 4), (3, 5)][i]? = some (t, o) →
      ∃ y, [y0, y1, y2, y3, y4, y5][i]? = some y ∧ DataW.trod enc Tryz.prog W 0 (fun _ => true) true n t (([c0, c1, c2, c3, c4, c5].drop o).take (Tryz.prog.cellsOf t)) = some y := fun i t o hi => by
    obtain ⟨f, hf, rfl, rfl⟩ := fields_of ask_shape hi
    obtain ⟨y, hy1, hy2⟩ := hall i f hf
    exact ⟨y, hy1, hy2⟩
  obtain ⟨z0, k0, g0⟩ := key 0 _ _ rfl
  obtain ⟨z1, k1, g1⟩ := key 1 _ _ rfl
  obtain ⟨z2, k2, g2⟩ := key 2 _ _ rfl
  obtain ⟨z3, k3, g3⟩ := key 3 _ _ rfl
  obtain ⟨z4, k4, g4⟩ := key 4 _ _ rfl
  obtain ⟨z5, k5, g5⟩ := key 5 _ _ rfl
  simp only [List.getElem?_cons_zero, List.getElem?_cons_succ, Option.some.injEq] at k0 k1 k2 k3 k4 k5
  subst k0 k1 k2 k3 k4 k5
  rw [askStr_cells] at g1 g3 g4
  rw [askInt_cells] at g0 g2 g5
  obtain ⟨y0a, y0b⟩ := y0
  obtain ⟨y1a, y1b⟩ := y1
  obtain ⟨y2a, y2b⟩ := y2
  obtain ⟨y3a, y3b⟩ := y3
  obtain ⟨y4a, y4b⟩ := y4
  obtain ⟨y5a, y5b⟩ := y5
  obtain ⟨i0, rfl, l0, u0, rfl⟩ := int_of_trod g0
  obtain ⟨s1, rfl, rfl⟩ := str_of_trod g1
  obtain ⟨i2, rfl, l2, u2, rfl⟩ := int_of_trod g2
  obtain ⟨s3, rfl, rfl⟩ := str_of_trod g3
  obtain ⟨s4, rfl, rfl⟩ := str_of_trod g4
  obtain ⟨i5, rfl, l5, u5, rfl⟩ := int_of_trod g5
  simp only [Rows.uptoBulk, Rows.uptoBulkAll, List.map_cons, List.map_nil] at hb
  exact ⟨⟨i0, s1, i2, s3, s4, i5⟩, rfl, by show s1.length ≤ b; omega, by show s3.length ≤ b; omega, by show s4.length ≤ b; omega, l5, u5⟩
end Go.Proofs.YtgkphjbcaidcpaaGreatDoor
set_option linter.unusedVariables false
set_option linter.unusedSimpArgs false
namespace Go.Proofs.YtgkphjbcaidcpaaGreatDoor
open Go.RowKit

set_option maxRecDepth 100000
open Go.ChangeShapes Go.WideShapes Go.ChangeAt Go.RowKit Go.Deep
theorem bulk_strs {H : Type} (l : List ByteArray) : (Ac.join (l.map (·.data.toList))).length ≤ Rows.uptoBulkAll (Go.ChangeShapes.strs (H := H) l) ∧ l.length ≤ Rows.uptoBulkAll (Go.ChangeShapes.strs (H := H) l) ∧ ∀ s ∈ l, s.data.toList.length ≤ Rows.uptoBulkAll (Go.ChangeShapes.strs (H := H) l) := by
  have key : ∀ l : List ByteArray, ((l.map (·.data.toList)).flatMap (10 :: ·)).length ≤ Rows.uptoBulkAll (Go.ChangeShapes.strs (H := H) l) ∧ l.length ≤ Rows.uptoBulkAll (Go.ChangeShapes.strs (H := H) l) ∧ ∀ s ∈ l, s.data.toList.length ≤ Rows.uptoBulkAll (Go.ChangeShapes.strs (H := H) l) := by
    intro l
    induction l with
    | nil => exact ⟨Nat.zero_le _, Nat.zero_le _, fun s hs => by cases hs⟩
    | cons x r ih =>
      have e : Rows.uptoBulkAll (Go.ChangeShapes.strs (H := H) (x :: r)) = x.data.toList.length + 1 + Rows.uptoBulkAll (Go.ChangeShapes.strs (H := H) r) := rfl
      rw [e]
      refine ⟨?_, ?_, fun s hs => ?_⟩
      · have h1 := ih.1
        rw [List.map_cons, List.flatMap_cons, List.length_append, List.length_cons]
        omega
      · have := ih.2.1
        rw [List.length_cons]
        omega
      · rcases List.mem_cons.1 hs with rfl | h
        · omega
        · have := ih.2.2 s h
          omega
  refine ⟨?_, (key l).2.1, (key l).2.2⟩
  cases l with
  | nil => exact Nat.zero_le _
  | cons x r =>
    have h1 := (key (x :: r)).1
    rw [List.map_cons, List.flatMap_cons, List.length_append, List.length_cons] at h1
    show (Ac.join (x.data.toList :: r.map (·.data.toList))).length ≤ _
    unfold Ac.join
    rw [List.length_append]
    omega
/-- Texts as an argument: the list, with the second form's bound on it. -/
theorem opTexts {H : Type} {enc : TypeId × Value → H} {W : World} {base : Nat} {v : Value} {d : DataW H} {ps : List MemPlace} {b : Nat} (hv : Value.okWide Tryz.prog W .any base 39 v)
    (h : DataW.Trod enc Tryz.prog W 0 (fun _ => true) true 39 v d ps) (hb : Rows.uptoBulk d ≤ b) :
    ∃ (A : Option Addr) (n c : Nat) (l : List (List UInt8)), v = .slice A n c ∧ RdS W A n l ∧ n ≤ c ∧ c ≤ maxLen ∧ n ≤ b ∧ (Ac.join l).length ≤ b ∧ ∀ s ∈ l, s.length ≤ b := by
  obtain ⟨a0, n0, c0, rfl⟩ := okWide_slice Tryz.underlying39 hv
  obtain ⟨fuel, hf⟩ := h
  rcases open_strings Tryz.underlying39 Tryz.underlying9 (by kernel_rfl) hf with ⟨hcs, hx⟩ | ⟨a, len, cap, ss, hcs, _, hl, hm, hsl, hx, hcell, _⟩
  · simp [Value.cells] at hcs
    obtain ⟨rfl, rfl, rfl⟩ := hcs
    exact ⟨none, 0, 0, [], rfl, RdS.nil _ _, by omega, by unfold maxLen; omega, by omega, by simp [Ac.join], by simp⟩
  · simp [Value.cells] at hcs
    obtain ⟨rfl, rfl, rfl⟩ := hcs
    rw [if_pos rfl] at hsl
    simp only [Prod.mk.injEq] at hx
    obtain ⟨rfl, rfl⟩ := hx
    have htl : (ss.take n0).length = n0 := by rw [List.length_take]; omega
    have hB := bulk_strs (H := H) (ss.take n0)
    have hS := bulks.slice_elems (Go.ChangeShapes.strs (H := H) (ss.take n0)) (Go.ChangeShapes.strs (H := H) (ss.drop n0))
    refine ⟨some a, n0, c0, (ss.take n0).map (·.data.toList), rfl, ⟨by rw [List.length_map]; exact htl, by rw [strs_length, List.length_map, htl, Nat.mul_one], fun hn => ?_⟩, hl, hm, by have := hB.2.1; omega, by have := hB.1; omega, fun s hs => ?_⟩
    · have h0 := hcell 0 (by omega)
      have hsp := spot_of_cell h0
      obtain ⟨g, o, s⟩ := a
      have hs : s = none := by simpa [Addr.add] using hsp
      subst hs
      refine ⟨g, o, rfl, World.block_lt_of_cell? W ⟨g, o, none⟩ (by simpa [Addr.add] using h0), fun j u hu => ?_⟩
      have hj : j < n0 := by
        have := (List.getElem?_eq_some_iff.1 hu).1
        rw [strs_length, List.length_map, htl] at this; exact this
      have h1 := hcell j (by omega)
      rw [addr_add] at h1
      rw [h1, ← hu]
      unfold Go.Proofs.YtgkphjbcaidcpaaGreatDoor.strs
      rw [List.map_map, List.getElem?_map, List.getElem?_take, if_pos hj, List.getElem?_eq_getElem (by omega : j < ss.length)]
      show some (Value.string (ss.getD j ByteArray.empty)) = some (strV (ss[j].data.toList))
      rw [List.getD_eq_getElem?_getD, List.getElem?_eq_getElem (by omega : j < ss.length)]
      rfl
    · obtain ⟨x, hx, rfl⟩ := List.mem_map.1 hs
      have := hB.2.2 x hx
      omega
end Go.Proofs.YtgkphjbcaidcpaaGreatDoor
