/- Joined texts: The laws' arguments opened: texts, fields. From the form's reading to 'bs', 'RdF'; no conditions but the bound of the second form; Requests, responses and single fields as arguments: from the form's reading to lists of bytes. The conditions stand in each line. -/
import Derived.Test.YtcaekfebnhedpaaGreatDoorM2
import Derived.Test.YtcaekfebnhedpaaGreatDoorM3
import Derived.Test.YtcaekfebnhedpaaGreatDoorM11
import Derived.Test.YtcaekfebnhedpaaGreatDoorM39
import Derived.Deep.SlicePairs
import Derived.ProofKit
import Derived.OpenShut
import Derived.SizedLaws
import Derived.JoinedCond
import Derived.Lib.SmallJoins
set_option linter.unusedVariables false
set_option linter.unusedSimpArgs false
set_option maxRecDepth 100000
namespace Go.Proofs.YtcaekfebnhedpaaGreatDoor
open Go.ChangeShapes Go.WideShapes Go.ChangeAt Go.RowKit Go.Deep

/-- An argument reads as it did where below the old heap all stands. -/
theorem arg_stays {H : Type} {enc : TypeId × Value → H} {P : Program} {t : TypeId} (hl : laidOutB P = true) (hr : P.readableRec t = true) (hrow : t < P.types.size) {W W' : World} {v : Value} {d : DataW H} {ps : List MemPlace}
    (h : DataW.Trod enc P W 0 (fun _ => true) true t v d ps) (hb : Below W.heap.size W W') (hlt : ∀ x ∈ ps, x.block < W.heap.size) (sp : Nat → Bool) (hsp : ∀ x ∈ ps, sp x.block = true) :
    DataW.Trod enc P W' 0 sp true t v d ps :=
  WideElems.Trod_stays hl hr hrow h (fun x hx => hb.same (hlt x hx)) hsp
theorem laidOut : laidOutB Tryz.prog = true := by kernel_rfl

theorem str_of_trod {H : Type} {enc : TypeId × Value → H} {W : World} {base : Nat} {sp : Nat → Bool} {n : Nat} {v : Value} {d : DataW H} {ps : List MemPlace}
    (h : DataW.trod enc Tryz.prog W base sp true n 9 [v] = some (d, ps)) : ∃ l : List UInt8, v = .string (bs l) ∧ d = .lit (.string l) := by
  obtain ⟨s, e1, e2⟩ := DataW.trod_string Tryz.underlying9 h
  simp at e1 e2
  obtain ⟨⟨rfl, _⟩, _⟩ := e2
  exact ⟨s.data.toList, e1, rfl⟩
/-- A text as an argument. -/
theorem opS {H : Type} {enc : TypeId × Value → H} {W : World} {base : Nat} {v : Value} {d : DataW H} {ps : List MemPlace} (hv : Value.okWide Tryz.prog W .any base 9 v)
    (h : DataW.Trod enc Tryz.prog W 0 (fun _ => true) true 9 v d ps) : ∃ l : List UInt8, v = .string (bs l) ∧ d = .lit (.string l) := by
  obtain ⟨s, rfl, rfl, _, _⟩ := Go.ChangeMaps.open_string Tryz.underlying9 hv h
  exact ⟨s.data.toList, rfl, rfl⟩
/-- A number as an argument. -/
theorem opI {H : Type} {enc : TypeId × Value → H} {W : World} {base : Nat} {v : Value} {d : DataW H} {ps : List MemPlace} (hv : Value.okWide Tryz.prog W .any base 3 v)
    (h : DataW.Trod enc Tryz.prog W 0 (fun _ => true) true 3 v d ps) : ∃ n : Int, v = .int .i64 n ∧ -9223372036854775808 ≤ n ∧ n ≤ 9223372036854775807 := by
  obtain ⟨n, rfl, _, _, wf⟩ := open_int Tryz.underlying3 hv h
  refine ⟨n, rfl, ?_⟩
  simpa [Lit.wf, IntKind.min, IntKind.max, IntKind.signed, IntKind.bits] using wf
theorem spot_of_cell {w : World} {a : Addr} {v : Value} (h : w.cell? a = some v) : a.spot = none := by
  unfold World.cell? at h
  split at h
  · split at h
    · cases h
    · rename_i h'; simpa using h'
  · cases h
theorem fld_desc : Tryz.prog.underlying 46 = some (.struct (Tryz.prog.fieldsOf 46)) := by kernel_rfl
theorem fld_shape : (Tryz.prog.fieldsOf 46).size = 2 ∧ ∀ f0 f1, Tryz.prog.fieldsOf 46 = #[f0, f1] → f0.type = 9 ∧ f1.type = 9 ∧ f0.offset = 0 ∧ f1.offset = 1 := by
  have h : (Tryz.prog.fieldsOf 46).toList.map (fun f => (f.type, f.offset)) = [(9, 0), (9, 1)] := by kernel_rfl
  refine ⟨by have := congrArg List.length h; simpa using this, fun f0 f1 e => ?_⟩
  rw [e] at h
  simp at h
  exact ⟨h.1.1, h.2.1, h.1.2, h.2.2⟩
/-- Fields as an argument: the list, with the second form's bound on it. -/
theorem opF {H : Type} {enc : TypeId × Value → H} {W : World} {base : Nat} {v : Value} {d : DataW H} {ps : List MemPlace} {b : Nat} (hv : Value.okWide Tryz.prog W .any base 29 v)
    (h : DataW.Trod enc Tryz.prog W 0 (fun _ => true) true 29 v d ps) (hb : Rows.uptoBulk d ≤ b) :
    ∃ (A : Option Addr) (n c : Nat) (l : List Fld), v = .slice A n c ∧ RdF W A n l ∧ n ≤ b ∧ (∀ f ∈ l, f.1.length ≤ b ∧ f.2.length ≤ b) := by
  obtain ⟨a0, n0, c0, rfl⟩ := okWide_slice Tryz.underlying29 hv
  obtain ⟨fuel, hf⟩ := h
  obtain ⟨hsz, hsh⟩ := fld_shape
  obtain ⟨f0, f1, he⟩ : ∃ f0 f1, Tryz.prog.fieldsOf 46 = #[f0, f1] := by
    match h : Tryz.prog.fieldsOf 46, hsz with
    | ⟨[f0, f1]⟩, _ => exact ⟨f0, f1, rfl⟩
  obtain ⟨t0, t1, o0, o1⟩ := hsh f0 f1 he
  have hfd := fld_desc
  rw [he] at hfd
  rcases open_slice_pairs Tryz.underlying29 hfd (by kernel_rfl) o0 o1 (by rw [t0]; kernel_rfl) (by rw [t1]; kernel_rfl) hf with ⟨hcs, hx⟩ | ⟨a, len, cap, m, n, V0, V1, D0, D1, P0, P1, hcs, _, hl, _, hm, hx, hc⟩
  · simp [Value.cells] at hcs
    obtain ⟨rfl, rfl, rfl⟩ := hcs
    exact ⟨none, 0, 0, [], rfl, RdF.nil _ _, by omega, by simp⟩
  · simp [Value.cells] at hcs
    obtain ⟨rfl, rfl, rfl⟩ := hcs
    simp at hm
    subst hm
    simp only [Prod.mk.injEq] at hx
    obtain ⟨rfl, rfl⟩ := hx
    have hS : ∀ i, i < n0 → ∃ q : Fld, W.cell? (a.add (i * 2)) = some (.string (bs q.1)) ∧ W.cell? (a.add (i * 2 + 1)) = some (.string (bs q.2)) ∧ D0 i = .lit (.string q.1) ∧ D1 i = .lit (.string q.2) := by
      intro i hi
      obtain ⟨h1, h2, h3, h4⟩ := hc i (by omega)
      rw [t0] at h3
      rw [t1] at h4
      obtain ⟨s, e1, e2⟩ := str_of_trod h3
      obtain ⟨r, e3, e4⟩ := str_of_trod h4
      exact ⟨(s, r), by rw [h1, e1], by rw [h2, e3], e2, e4⟩
    obtain ⟨q, hq⟩ := choose_lt hS
    have hlen : ((List.range n0).map q).length = n0 := by simp
    have hbulk : ∀ i, i < n0 → (q i).1.length ≤ b ∧ (q i).2.length ≤ b := by
      intro i hi
      have hmem : DataW.agg [D0 i, D1 i] ∈ (List.range n0).map (fun i => DataW.agg (H := H) [D0 i, D1 i]) := List.mem_map.2 ⟨i, by simpa using hi, rfl⟩
      have h1 := bulks.part_le hmem
      have h2 := bulks.slice_elems ((List.range n0).map (fun i => DataW.agg (H := H) [D0 i, D1 i])) ((List.range (m - n0)).map fun j => DataW.agg [D0 (n0 + j), D1 (n0 + j)])
      obtain ⟨_, _, e1, e2⟩ := hq i hi
      rw [e1, e2] at h1
      simp only [Rows.uptoBulk, Rows.uptoBulkAll] at h1 h2 hb
      omega
    refine ⟨some a, n0, m, (List.range n0).map q, rfl, ⟨hlen, by rw [fcells_length, hlen], fun hn => ?_⟩, ?_, ?_⟩
    · have hsp := spot_of_cell (hq 0 hn).1
      obtain ⟨g, o, s⟩ := a
      have hs : s = none := by simpa [Addr.add] using hsp
      subst hs
      refine ⟨g, o, rfl, World.block_lt_of_cell? W ⟨g, o, none⟩ (by have := (hq 0 hn).1; simpa [Addr.add] using this), fun j u hu => ?_⟩
      have hj : j < 2 * n0 := by
        have := (List.getElem?_eq_some_iff.1 hu).1
        rw [fcells_length, hlen] at this; omega
      rcases Nat.mod_two_eq_zero_or_one j with h0 | h0
      · obtain ⟨k, rfl⟩ : ∃ k, j = 2 * k := ⟨j / 2, by omega⟩
        have hk : k < ((List.range n0).map q).length := by rw [hlen]; omega
        rw [fcells_get1 _ k hk] at hu
        have := (hq k (by omega)).1
        rw [addr_add, Nat.mul_comm] at this
        rw [this, ← hu]
        simp [strV]
      · obtain ⟨k, rfl⟩ : ∃ k, j = 2 * k + 1 := ⟨j / 2, by omega⟩
        have hk : k < ((List.range n0).map q).length := by rw [hlen]; omega
        rw [fcells_get2 _ k hk] at hu
        have := (hq k (by omega)).2.1
        rw [addr_add, Nat.mul_comm] at this
        rw [this, ← hu]
        simp [strV]
    · have := bulks.slice_le ((List.range n0).map (fun i => DataW.agg (H := H) [D0 i, D1 i])) ((List.range (m - n0)).map fun j => DataW.agg [D0 (n0 + j), D1 (n0 + j)])
      simp at this
      omega
    · intro f hf
      obtain ⟨i, hi, rfl⟩ := List.mem_map.1 hf
      exact hbulk i (by simpa using hi)
end Go.Proofs.YtcaekfebnhedpaaGreatDoor
set_option linter.unusedVariables false
set_option linter.unusedSimpArgs false
namespace Go.Proofs.YtcaekfebnhedpaaGreatDoor
open Go.RowKit

set_option maxRecDepth 100000
open Go.ChangeShapes Go.WideShapes Go.ChangeAt Go.RowKit Go.Deep Go.Joins
theorem four_of {fs : Array Field} {a b c d : TypeId} (h : fs.toList.map (fun f => f.type) = [a, b, c, d]) : ∃ f0 f1 f2 f3, fs = #[f0, f1, f2, f3] ∧ f0.type = a ∧ f1.type = b ∧ f2.type = c ∧ f3.type = d := by
  obtain ⟨l⟩ := fs
  match l, h with
  | [f0, f1, f2, f3], h =>
    simp at h
    exact ⟨f0, f1, f2, f3, rfl, h.1, h.2.1, h.2.2.1, h.2.2.2⟩
theorem two_of {fs : Array Field} {a b : TypeId} (h : fs.toList.map (fun f => f.type) = [a, b]) : ∃ f0 f1, fs = #[f0, f1] ∧ f0.type = a ∧ f1.type = b := by
  obtain ⟨l⟩ := fs
  match l, h with
  | [f0, f1], h =>
    simp at h
    exact ⟨f0, f1, rfl, h.1, h.2⟩
theorem opFc {H : Type} {enc : TypeId × Value → H} {W : World} {fuel : Nat} {v : Value} {d : DataW H} {ps : List MemPlace} {b : Nat}
    (hf : DataW.trod enc Tryz.prog W 0 (fun _ => true) true fuel 29 [v] = some (d, ps)) (hb : Rows.uptoBulk d ≤ b) :
    ∃ (A : Option Addr) (n c : Nat) (l : List Fld), v = .slice A n c ∧ RdF W A n l ∧ n ≤ b ∧ (∀ f ∈ l, f.1.length ≤ b ∧ f.2.length ≤ b) ∧ n ≤ c ∧ c ≤ maxLen := by
  obtain ⟨hsz, hsh⟩ := fld_shape
  obtain ⟨f0, f1, he⟩ : ∃ f0 f1, Tryz.prog.fieldsOf 46 = #[f0, f1] := by
    match h : Tryz.prog.fieldsOf 46, hsz with
    | ⟨[f0, f1]⟩, _ => exact ⟨f0, f1, rfl⟩
  obtain ⟨t0, t1, o0, o1⟩ := hsh f0 f1 he
  have hfd := fld_desc
  rw [he] at hfd
  rcases open_slice_pairs Tryz.underlying29 hfd (by kernel_rfl) o0 o1 (by rw [t0]; kernel_rfl) (by rw [t1]; kernel_rfl) hf with ⟨hcs, hx⟩ | ⟨a, len, cap, m, n, V0, V1, D0, D1, P0, P1, hcs, _, hl, hcm, hm, hx, hc⟩
  · simp at hcs
    subst hcs
    exact ⟨none, 0, 0, [], rfl, RdF.nil _ _, by omega, by simp, by omega, by unfold maxLen; omega⟩
  · simp at hcs
    subst hcs
    simp at hm
    subst hm
    simp only [Prod.mk.injEq] at hx
    obtain ⟨rfl, rfl⟩ := hx
    have hS : ∀ i, i < len → ∃ q : Fld, W.cell? (a.add (i * 2)) = some (.string (bs q.1)) ∧ W.cell? (a.add (i * 2 + 1)) = some (.string (bs q.2)) ∧ D0 i = .lit (.string q.1) ∧ D1 i = .lit (.string q.2) := by
      intro i hi
      obtain ⟨h1, h2, h3, h4⟩ := hc i (by omega)
      rw [t0] at h3
      rw [t1] at h4
      obtain ⟨s, e1, e2⟩ := str_of_trod h3
      obtain ⟨r, e3, e4⟩ := str_of_trod h4
      exact ⟨(s, r), by rw [h1, e1], by rw [h2, e3], e2, e4⟩
    obtain ⟨q, hq⟩ := choose_lt hS
    have hlen : ((List.range len).map q).length = len := by simp
    have hbulk : ∀ i, i < len → (q i).1.length ≤ b ∧ (q i).2.length ≤ b := by
      intro i hi
      have hmem : DataW.agg [D0 i, D1 i] ∈ (List.range len).map (fun i => DataW.agg (H := H) [D0 i, D1 i]) := List.mem_map.2 ⟨i, by simpa using hi, rfl⟩
      have h1 := bulks.part_le hmem
      have h2 := bulks.slice_elems ((List.range len).map (fun i => DataW.agg (H := H) [D0 i, D1 i])) ((List.range (m - len)).map fun j => DataW.agg [D0 (len + j), D1 (len + j)])
      obtain ⟨_, _, e1, e2⟩ := hq i hi
      rw [e1, e2] at h1
      simp only [Rows.uptoBulk, Rows.uptoBulkAll] at h1 h2 hb
      omega
    refine ⟨some a, len, m, (List.range len).map q, rfl, ⟨hlen, by rw [fcells_length, hlen], fun hn => ?_⟩, ?_, ?_, hl, hcm⟩
    · have hsp := spot_of_cell (hq 0 hn).1
      obtain ⟨g, o, s⟩ := a
      have hs : s = none := by simpa [Addr.add] using hsp
      subst hs
      refine ⟨g, o, rfl, World.block_lt_of_cell? W ⟨g, o, none⟩ (by have := (hq 0 hn).1; simpa [Addr.add] using this), fun j u hu => ?_⟩
      have hj : j < 2 * len := by
        have := (List.getElem?_eq_some_iff.1 hu).1
        rw [fcells_length, hlen] at this; omega
      rcases Nat.mod_two_eq_zero_or_one j with h0 | h0
      · obtain ⟨k, rfl⟩ : ∃ k, j = 2 * k := ⟨j / 2, by omega⟩
        have hk : k < ((List.range len).map q).length := by rw [hlen]; omega
        rw [fcells_get1 _ k hk] at hu
        have := (hq k (by omega)).1
        rw [addr_add, Nat.mul_comm] at this
        rw [this, ← hu]
        simp [strV]
      · obtain ⟨k, rfl⟩ : ∃ k, j = 2 * k + 1 := ⟨j / 2, by omega⟩
        have hk : k < ((List.range len).map q).length := by rw [hlen]; omega
        rw [fcells_get2 _ k hk] at hu
        have := (hq k (by omega)).2.1
        rw [addr_add, Nat.mul_comm] at this
        rw [this, ← hu]
        simp [strV]
    · have := bulks.slice_le ((List.range len).map (fun i => DataW.agg (H := H) [D0 i, D1 i])) ((List.range (m - len)).map fun j => DataW.agg [D0 (len + j), D1 (len + j)])
      simp at this
      omega
    · intro f hf
      obtain ⟨i, hi, rfl⟩ := List.mem_map.1 hf
      exact hbulk i (by simpa using hi)
theorem int_of_trod {H : Type} {enc : TypeId × Value → H} {W : World} {base : Nat} {sp : Nat → Bool} {n : Nat} {v : Value} {d : DataW H} {ps : List MemPlace}
    (h : DataW.trod enc Tryz.prog W base sp true n 3 [v] = some (d, ps)) : ∃ i : Int, v = .int .i64 i ∧ -9223372036854775808 ≤ i ∧ i ≤ 9223372036854775807 ∧ d = .lit (.int .i64 i) := by
  obtain ⟨i, e1, e2, wf⟩ := DataW.trod_int Tryz.underlying3 h
  simp at e1 e2
  obtain ⟨rfl, _⟩ := e2
  refine ⟨i, e1, ?_, ?_, rfl⟩ <;> simp [Lit.wf, IntKind.min, IntKind.max, IntKind.signed, IntKind.bits] at wf <;> omega
theorem resp_desc : Tryz.prog.underlying 31 = some (.struct (Tryz.prog.fieldsOf 31)) := by kernel_rfl
theorem resp_shape : (Tryz.prog.fieldsOf 31).toList.map (fun f => f.type) = [3, 9, 3, 29] := by kernel_rfl
theorem resp_one : oneCellFields Tryz.prog (Tryz.prog.fieldsOf 31) = true := by kernel_rfl
theorem resp_cells : Tryz.prog.cellsOf 31 = 4 := by kernel_rfl
/-- A response as an argument. -/
theorem opResp {H : Type} {enc : TypeId × Value → H} {W : World} {base : Nat} {v : Value} {d : DataW H} {ps : List MemPlace} {b : Nat} (hv : Value.okWide Tryz.prog W .any base 31 v)
    (h : DataW.Trod enc Tryz.prog W 0 (fun _ => true) true 31 v d ps) (hb : Rows.uptoBulk d ≤ b) :
    ∃ (st : Int) (rs : List UInt8) (minor : Int) (A : Option Addr) (n c : Nat) (l : List Fld), v = respV st rs minor A n c ∧ RdF W A n l ∧ n + 3 ≤ b ∧ (∀ f ∈ l, f.1.length ≤ b ∧ f.2.length ≤ b) ∧ n ≤ c ∧ c ≤ maxLen ∧ -9223372036854775808 ≤ st ∧ st ≤ 9223372036854775807 := by
  obtain ⟨f0, f1, f2, f3, he, t0, t1, t2, t3⟩ := four_of resp_shape
  have hd := resp_desc
  have h1 := resp_one
  rw [he] at hd h1
  obtain ⟨v0, v1, v2, v3, y0, y1, y2, y3, n, rfl, rfl, rfl, g0, g1, g2, g3⟩ := open_agg4 hd h1 resp_cells hv h
  rw [t0] at g0
  rw [t1] at g1
  rw [t2] at g2
  rw [t3] at g3
  obtain ⟨y0a, y0b⟩ := y0
  obtain ⟨y1a, y1b⟩ := y1
  obtain ⟨y2a, y2b⟩ := y2
  obtain ⟨y3a, y3b⟩ := y3
  obtain ⟨i0, rfl, b1, b2, rfl⟩ := int_of_trod g0
  obtain ⟨s1, rfl, rfl⟩ := str_of_trod g1
  obtain ⟨i2, rfl, _, _, rfl⟩ := int_of_trod g2
  simp only [Rows.uptoBulk, Rows.uptoBulkAll] at hb
  obtain ⟨A, k, c, l, rfl, hr, hn, hf, hc1, hc2⟩ := opFc (b := b - 3) g3 (by omega)
  exact ⟨i0, s1, i2, A, k, c, l, rfl, hr, by omega, fun f hm => ⟨by have := (hf f hm).1; omega, by have := (hf f hm).2; omega⟩, hc1, hc2, b1, b2⟩
theorem fld_one : oneCellFields Tryz.prog (Tryz.prog.fieldsOf 46) = true := by kernel_rfl
theorem fld_cellsOf : Tryz.prog.cellsOf 46 = 2 := by kernel_rfl
theorem fld_types : (Tryz.prog.fieldsOf 46).toList.map (fun f => f.type) = [9, 9] := by kernel_rfl
/-- A field as an argument. -/
theorem opFld {H : Type} {enc : TypeId × Value → H} {W : World} {base : Nat} {v : Value} {d : DataW H} {ps : List MemPlace} {b : Nat} (hv : Value.okWide Tryz.prog W .any base 46 v)
    (h : DataW.Trod enc Tryz.prog W 0 (fun _ => true) true 46 v d ps) (hb : Rows.uptoBulk d ≤ b) :
    ∃ f : Fld, v = .agg #[.string (bs f.1), .string (bs f.2)] ∧ f.1.length ≤ b ∧ f.2.length ≤ b := by
  obtain ⟨f0, f1, he, t0, t1⟩ := two_of fld_types
  have hd := fld_desc
  have h1 := fld_one
  rw [he] at hd h1
  obtain ⟨v0, v1, y0, y1, n, rfl, rfl, rfl, g0, g1⟩ := open_agg2 hd h1 fld_cellsOf hv h
  rw [t0] at g0
  rw [t1] at g1
  obtain ⟨y0a, y0b⟩ := y0
  obtain ⟨y1a, y1b⟩ := y1
  obtain ⟨s0, rfl, rfl⟩ := str_of_trod g0
  obtain ⟨s1, rfl, rfl⟩ := str_of_trod g1
  simp only [Rows.uptoBulk, Rows.uptoBulkAll] at hb
  exact ⟨(s0, s1), rfl, by simp only; omega, by simp only; omega⟩
end Go.Proofs.YtcaekfebnhedpaaGreatDoor
