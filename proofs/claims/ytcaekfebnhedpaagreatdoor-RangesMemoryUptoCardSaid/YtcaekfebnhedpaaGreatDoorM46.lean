/- Joined texts: Requests, responses and single fields as arguments: from the form's reading to lists of bytes; Bytes, ints, fields and responses as arguments, with the sum of the texts' lengths. The conditions stand in each line. -/
import Derived.Test.YtcaekfebnhedpaaGreatDoorM11
import Derived.Test.YtcaekfebnhedpaaGreatDoorM20
import Derived.Test.YtcaekfebnhedpaaGreatDoorM45
import Derived.Lib.SmallJoins
set_option linter.unusedVariables false
set_option linter.unusedSimpArgs false
namespace Go.Proofs.YtcaekfebnhedpaaGreatDoor
open Go.RowKit

set_option maxRecDepth 100000
open Go.ChangeShapes Go.WideShapes Go.ChangeAt Go.RowKit Go.Deep Go.Joins
theorem four_of {fs : Array Field} {a b c d : TypeId} (h : fs.toList.map (fun f => f.type) = [a, b, c, d]) : ∃ f0 f1 f2 f3, fs = #[f0, f1, f2, f3] ∧ f0.type = a ∧ f1.type = b ∧ f2.type = c ∧ f3.type = d := by
  obtain ⟨l⟩ := fs
  match l, h with
  | [f0, f1, f2, f3], h =>
    simp at h
    exact ⟨f0, f1, f2, f3, rfl, h.1, h.2.1, h.2.2.1, h.2.2.2⟩
theorem two_of {fs : Array Field} {a b : TypeId} (h : fs.toList.map (fun f => f.type) = [a, b]) : ∃ f0 f1, fs = #[f0, f1] ∧ f0.type = a ∧ f1.type = b := by
  obtain ⟨l⟩ := fs
  match l, h with
  | [f0, f1], h =>
    simp at h
    exact ⟨f0, f1, rfl, h.1, h.2⟩
theorem opFc {H : Type} {enc : TypeId × Value → H} {W : World} {fuel : Nat} {v : Value} {d : DataW H} {ps : List MemPlace} {b : Nat}
    (hf : DataW.trod enc Tryz.prog W 0 (fun _ => true) true fuel 29 [v] = some (d, ps)) (hb : Rows.uptoBulk d ≤ b) :
    ∃ (A : Option Addr) (n c : Nat) (l : List Fld), v = .slice A n c ∧ RdF W A n l ∧ n ≤ b ∧ (∀ f ∈ l, f.1.length ≤ b ∧ f.2.length ≤ b) ∧ n ≤ c ∧ c ≤ maxLen := by
  obtain ⟨hsz, hsh⟩ := fld_shape
  obtain ⟨f0, f1, he⟩ : ∃ f0 f1, Tryz.prog.fieldsOf 46 = #[f0, f1] := by
    match h : Tryz.prog.fieldsOf 46, hsz with
    | ⟨[f0, f1]⟩, _ => exact ⟨f0, f1, rfl⟩
  obtain ⟨t0, t1, o0, o1⟩ := hsh f0 f1 he
  have hfd := fld_desc
  rw [he] at hfd
  rcases open_slice_pairs Tryz.underlying29 hfd (by kernel_rfl) o0 o1 (by rw [t0]; kernel_rfl) (by rw [t1]; kernel_rfl) hf with ⟨hcs, hx⟩ | ⟨a, len, cap, m, n, V0, V1, D0, D1, P0, P1, hcs, _, hl, hcm, hm, hx, hc⟩
  · simp at hcs
    subst hcs
    exact ⟨none, 0, 0, [], rfl, RdF.nil _ _, by omega, by simp, by omega, by unfold maxLen; omega⟩
  · simp at hcs
    subst hcs
    simp at hm
    subst hm
    simp only [Prod.mk.injEq] at hx
    obtain ⟨rfl, rfl⟩ := hx
    have hS : ∀ i, i < len → ∃ q : Fld, W.cell? (a.add (i * 2)) = some (.string (bs q.1)) ∧ W.cell? (a.add (i * 2 + 1)) = some (.string (bs q.2)) ∧ D0 i = .lit (.string q.1) ∧ D1 i = .lit (.string q.2) := by
      intro i hi
      obtain ⟨h1, h2, h3, h4⟩ := hc i (by omega)
      rw [t0] at h3
      rw [t1] at h4
      obtain ⟨s, e1, e2⟩ := str_of_trod h3
      obtain ⟨r, e3, e4⟩ := str_of_trod h4
      exact ⟨(s, r), by rw [h1, e1], by rw [h2, e3], e2, e4⟩
    obtain ⟨q, hq⟩ := choose_lt hS
    have hlen : ((List.range len).map q).length = len := by simp
    have hbulk : ∀ i, i < len → (q i).1.length ≤ b ∧ (q i).2.length ≤ b := by
      intro i hi
      have hmem : DataW.agg [D0 i, D1 i] ∈ (List.range len).map (fun i => DataW.agg (H := H) [D0 i, D1 i]) := List.mem_map.2 ⟨i, by simpa using hi, rfl⟩
      have h1 := bulks.part_le hmem
      have h2 := bulks.slice_elems ((List.range len).map (fun i => DataW.agg (H := H) [D0 i, D1 i])) ((List.range (m - len)).map fun j => DataW.agg [D0 (len + j), D1 (len + j)])
      obtain ⟨_, _, e1, e2⟩ := hq i hi
      rw [e1, e2] at h1
      simp only [Rows.uptoBulk, Rows.uptoBulkAll] at h1 h2 hb
      omega
    refine ⟨some a, len, m, (List.range len).map q, rfl, ⟨hlen, by rw [fcells_length, hlen], fun hn => ?_⟩, ?_, ?_, hl, hcm⟩
    · have hsp := spot_of_cell (hq 0 hn).1
      obtain ⟨g, o, s⟩ := a
      have hs : s = none := by simpa [Addr.add] using hsp
      subst hs
      refine ⟨g, o, rfl, World.block_lt_of_cell? W ⟨g, o, none⟩ (by have := (hq 0 hn).1; simpa [Addr.add] using this), fun j u hu => ?_⟩
      have hj : j < 2 * len := by
        have := (List.getElem?_eq_some_iff.1 hu).1
        rw [fcells_length, hlen] at this; omega
      rcases Nat.mod_two_eq_zero_or_one j with h0 | h0
      · obtain ⟨k, rfl⟩ : ∃ k, j = 2 * k := ⟨j / 2, by omega⟩
        have hk : k < ((List.range len).map q).length := by rw [hlen]; omega
        rw [fcells_get1 _ k hk] at hu
        have := (hq k (by omega)).1
        rw [addr_add, Nat.mul_comm] at this
        rw [this, ← hu]
        simp [strV]
      · obtain ⟨k, rfl⟩ : ∃ k, j = 2 * k + 1 := ⟨j / 2, by omega⟩
        have hk : k < ((List.range len).map q).length := by rw [hlen]; omega
        rw [fcells_get2 _ k hk] at hu
        have := (hq k (by omega)).2.1
        rw [addr_add, Nat.mul_comm] at this
        rw [this, ← hu]
        simp [strV]
    · have := bulks.slice_le ((List.range len).map (fun i => DataW.agg (H := H) [D0 i, D1 i])) ((List.range (m - len)).map fun j => DataW.agg [D0 (len + j), D1 (len + j)])
      simp at this
      omega
    · intro f hf
      obtain ⟨i, hi, rfl⟩ := List.mem_map.1 hf
      exact hbulk i (by simpa using hi)
theorem int_of_trod {H : Type} {enc : TypeId × Value → H} {W : World} {base : Nat} {sp : Nat → Bool} {n : Nat} {v : Value} {d : DataW H} {ps : List MemPlace}
    (h : DataW.trod enc Tryz.prog W base sp true n 3 [v] = some (d, ps)) : ∃ i : Int, v = .int .i64 i ∧ -9223372036854775808 ≤ i ∧ i ≤ 9223372036854775807 ∧ d = .lit (.int .i64 i) := by
  obtain ⟨i, e1, e2, wf⟩ := DataW.trod_int Tryz.underlying3 h
  simp at e1 e2
  obtain ⟨rfl, _⟩ := e2
  refine ⟨i, e1, ?_, ?_, rfl⟩ <;> simp [Lit.wf, IntKind.min, IntKind.max, IntKind.signed, IntKind.bits] at wf <;> omega
theorem resp_desc : Tryz.prog.underlying 31 = some (.struct (Tryz.prog.fieldsOf 31)) := by kernel_rfl
theorem resp_shape : (Tryz.prog.fieldsOf 31).toList.map (fun f => f.type) = [3, 9, 3, 29] := by kernel_rfl
theorem resp_one : oneCellFields Tryz.prog (Tryz.prog.fieldsOf 31) = true := by kernel_rfl
theorem resp_cells : Tryz.prog.cellsOf 31 = 4 := by kernel_rfl
/-- A response as an argument. -/
theorem opResp {H : Type} {enc : TypeId × Value → H} {W : World} {base : Nat} {v : Value} {d : DataW H} {ps : List MemPlace} {b : Nat} (hv : Value.okWide Tryz.prog W .any base 31 v)
    (h : DataW.Trod enc Tryz.prog W 0 (fun _ => true) true 31 v d ps) (hb : Rows.uptoBulk d ≤ b) :
    ∃ (st : Int) (rs : List UInt8) (minor : Int) (A : Option Addr) (n c : Nat) (l : List Fld), v = respV st rs minor A n c ∧ RdF W A n l ∧ n + 3 ≤ b ∧ (∀ f ∈ l, f.1.length ≤ b ∧ f.2.length ≤ b) ∧ n ≤ c ∧ c ≤ maxLen ∧ -9223372036854775808 ≤ st ∧ st ≤ 9223372036854775807 := by
  obtain ⟨f0, f1, f2, f3, he, t0, t1, t2, t3⟩ := four_of resp_shape
  have hd := resp_desc
  have h1 := resp_one
  rw [he] at hd h1
  obtain ⟨v0, v1, v2, v3, y0, y1, y2, y3, n, rfl, rfl, rfl, g0, g1, g2, g3⟩ := open_agg4 hd h1 resp_cells hv h
  rw [t0] at g0
  rw [t1] at g1
  rw [t2] at g2
  rw [t3] at g3
  obtain ⟨y0a, y0b⟩ := y0
  obtain ⟨y1a, y1b⟩ := y1
  obtain ⟨y2a, y2b⟩ := y2
  obtain ⟨y3a, y3b⟩ := y3
  obtain ⟨i0, rfl, b1, b2, rfl⟩ := int_of_trod g0
  obtain ⟨s1, rfl, rfl⟩ := str_of_trod g1
  obtain ⟨i2, rfl, _, _, rfl⟩ := int_of_trod g2
  simp only [Rows.uptoBulk, Rows.uptoBulkAll] at hb
  obtain ⟨A, k, c, l, rfl, hr, hn, hf, hc1, hc2⟩ := opFc (b := b - 3) g3 (by omega)
  exact ⟨i0, s1, i2, A, k, c, l, rfl, hr, by omega, fun f hm => ⟨by have := (hf f hm).1; omega, by have := (hf f hm).2; omega⟩, hc1, hc2, b1, b2⟩
theorem fld_one : oneCellFields Tryz.prog (Tryz.prog.fieldsOf 46) = true := by kernel_rfl
theorem fld_cellsOf : Tryz.prog.cellsOf 46 = 2 := by kernel_rfl
theorem fld_types : (Tryz.prog.fieldsOf 46).toList.map (fun f => f.type) = [9, 9] := by kernel_rfl
/-- A field as an argument. -/
theorem opFld {H : Type} {enc : TypeId × Value → H} {W : World} {base : Nat} {v : Value} {d : DataW H} {ps : List MemPlace} {b : Nat} (hv : Value.okWide Tryz.prog W .any base 46 v)
    (h : DataW.Trod enc Tryz.prog W 0 (fun _ => true) true 46 v d ps) (hb : Rows.uptoBulk d ≤ b) :
    ∃ f : Fld, v = .agg #[.string (bs f.1), .string (bs f.2)] ∧ f.1.length ≤ b ∧ f.2.length ≤ b := by
  obtain ⟨f0, f1, he, t0, t1⟩ := two_of fld_types
  have hd := fld_desc
  have h1 := fld_one
  rw [he] at hd h1
  obtain ⟨v0, v1, y0, y1, n, rfl, rfl, rfl, g0, g1⟩ := open_agg2 hd h1 fld_cellsOf hv h
  rw [t0] at g0
  rw [t1] at g1
  obtain ⟨y0a, y0b⟩ := y0
  obtain ⟨y1a, y1b⟩ := y1
  obtain ⟨s0, rfl, rfl⟩ := str_of_trod g0
  obtain ⟨s1, rfl, rfl⟩ := str_of_trod g1
  simp only [Rows.uptoBulk, Rows.uptoBulkAll] at hb
  exact ⟨(s0, s1), rfl, by simp only; omega, by simp only; omega⟩
end Go.Proofs.YtcaekfebnhedpaaGreatDoor
set_option linter.unusedVariables false
set_option linter.unusedSimpArgs false
namespace Go.Proofs.YtcaekfebnhedpaaGreatDoor
open Go.RowKit

set_option maxRecDepth 100000
open Go.ChangeShapes Go.WideShapes Go.ChangeAt Go.RowKit Go.Deep Go.Joins
/-- How many bytes the fields' texts have. -/
def Rg.sumF (l : List Fld) : Nat := (l.map fun f => f.1.length + f.2.length).sum
theorem sum_bulk {H : Type} {α : Type} (l : List α) (f : α → DataW H) (g : α → Nat) (h : ∀ x ∈ l, g x ≤ Rows.uptoBulk (f x)) : (l.map g).sum ≤ Rows.uptoBulkAll (l.map f) := by
  induction l with
  | nil => simp
  | cons x r ih =>
    have h1 := h x (by simp)
    have h2 := ih fun y hy => h y (by simp [hy])
    simp only [List.map_cons, List.sum_cons, Rows.uptoBulkAll]
    omega
theorem opFcS {H : Type} {enc : TypeId × Value → H} {W : World} {fuel : Nat} {v : Value} {d : DataW H} {ps : List MemPlace} {b : Nat}
    (hf : DataW.trod enc Tryz.prog W 0 (fun _ => true) true fuel 29 [v] = some (d, ps)) (hb : Rows.uptoBulk d ≤ b) :
    ∃ (A : Option Addr) (n c : Nat) (l : List Fld), v = .slice A n c ∧ RdF W A n l ∧ n + 1 ≤ b ∧ (∀ f ∈ l, f.1.length ≤ b ∧ f.2.length ≤ b) ∧ n ≤ c ∧ c ≤ maxLen ∧ Rg.sumF l ≤ b := by
  obtain ⟨hsz, hsh⟩ := fld_shape
  obtain ⟨f0, f1, he⟩ : ∃ f0 f1, Tryz.prog.fieldsOf 46 = #[f0, f1] := by
    match h : Tryz.prog.fieldsOf 46, hsz with
    | ⟨[f0, f1]⟩, _ => exact ⟨f0, f1, rfl⟩
  obtain ⟨t0, t1, o0, o1⟩ := hsh f0 f1 he
  have hfd := fld_desc
  rw [he] at hfd
  rcases open_slice_pairs Tryz.underlying29 hfd (by kernel_rfl) o0 o1 (by rw [t0]; kernel_rfl) (by rw [t1]; kernel_rfl) hf with ⟨hcs, hx⟩ | ⟨a, len, cap, m, n, V0, V1, D0, D1, P0, P1, hcs, _, hl, hcm, hm, hx, hc⟩
  · simp at hcs
    subst hcs
    exact ⟨none, 0, 0, [], rfl, RdF.nil _ _, by have := bulks.one_le d; omega, by simp, by omega, by unfold maxLen; omega, by simp [Rg.sumF]⟩
  · simp at hcs
    subst hcs
    simp at hm
    subst hm
    simp only [Prod.mk.injEq] at hx
    obtain ⟨rfl, rfl⟩ := hx
    have hS : ∀ i, i < len → ∃ q : Fld, W.cell? (a.add (i * 2)) = some (.string (bs q.1)) ∧ W.cell? (a.add (i * 2 + 1)) = some (.string (bs q.2)) ∧ D0 i = .lit (.string q.1) ∧ D1 i = .lit (.string q.2) := by
      intro i hi
      obtain ⟨h1, h2, h3, h4⟩ := hc i (by omega)
      rw [t0] at h3
      rw [t1] at h4
      obtain ⟨s, e1, e2⟩ := str_of_trod h3
      obtain ⟨r, e3, e4⟩ := str_of_trod h4
      exact ⟨(s, r), by rw [h1, e1], by rw [h2, e3], e2, e4⟩
    obtain ⟨q, hq⟩ := choose_lt hS
    have hlen : ((List.range len).map q).length = len := by simp
    have hbulk : ∀ i, i < len → (q i).1.length ≤ b ∧ (q i).2.length ≤ b := by
      intro i hi
      have hmem : DataW.agg [D0 i, D1 i] ∈ (List.range len).map (fun i => DataW.agg (H := H) [D0 i, D1 i]) := List.mem_map.2 ⟨i, by simpa using hi, rfl⟩
      have h1 := bulks.part_le hmem
      have h2 := bulks.slice_elems ((List.range len).map (fun i => DataW.agg (H := H) [D0 i, D1 i])) ((List.range (m - len)).map fun j => DataW.agg [D0 (len + j), D1 (len + j)])
      obtain ⟨_, _, e1, e2⟩ := hq i hi
      rw [e1, e2] at h1
      simp only [Rows.uptoBulk, Rows.uptoBulkAll] at h1 h2 hb
      omega
    refine ⟨some a, len, m, (List.range len).map q, rfl, ⟨hlen, by rw [fcells_length, hlen], fun hn => ?_⟩, ?_, ?_, hl, hcm, ?_⟩
    · have hsp := spot_of_cell (hq 0 hn).1
      obtain ⟨g, o, s⟩ := a
      have hs : s = none := by simpa [Addr.add] using hsp
      subst hs
      refine ⟨g, o, rfl, World.block_lt_of_cell? W ⟨g, o, none⟩ (by have := (hq 0 hn).1; simpa [Addr.add] using this), fun j u hu => ?_⟩
      have hj : j < 2 * len := by
        have := (List.getElem?_eq_some_iff.1 hu).1
        rw [fcells_length, hlen] at this; omega
      rcases Nat.mod_two_eq_zero_or_one j with h0 | h0
      · obtain ⟨k, rfl⟩ : ∃ k, j = 2 * k := ⟨j / 2, by omega⟩
        have hk : k < ((List.range len).map q).length := by rw [hlen]; omega
        rw [fcells_get1 _ k hk] at hu
        have := (hq k (by omega)).1
        rw [addr_add, Nat.mul_comm] at this
        rw [this, ← hu]
        simp [strV]
      · obtain ⟨k, rfl⟩ : ∃ k, j = 2 * k + 1 := ⟨j / 2, by omega⟩
        have hk : k < ((List.range len).map q).length := by rw [hlen]; omega
        rw [fcells_get2 _ k hk] at hu
        have := (hq k (by omega)).2.1
        rw [addr_add, Nat.mul_comm] at this
        rw [this, ← hu]
        simp [strV]
    · have := bulks.slice_le ((List.range len).map (fun i => DataW.agg (H := H) [D0 i, D1 i])) ((List.range (m - len)).map fun j => DataW.agg [D0 (len + j), D1 (len + j)])
      simp at this
      omega
    · intro f hf
      obtain ⟨i, hi, rfl⟩ := List.mem_map.1 hf
      exact hbulk i (by simpa using hi)
    · have h1 := sum_bulk (H := H) (List.range len) (fun i => DataW.agg [D0 i, D1 i]) (fun i => (q i).1.length + (q i).2.length) (fun i hi => by
        obtain ⟨_, _, e1, e2⟩ := hq i (by simpa using hi)
        rw [e1, e2]
        simp only [Rows.uptoBulk, Rows.uptoBulkAll]
        omega)
      have h2 := bulks.slice_elems ((List.range len).map (fun i => DataW.agg (H := H) [D0 i, D1 i])) ((List.range (m - len)).map fun j => DataW.agg [D0 (len + j), D1 (len + j)])
      have h3 : Rg.sumF ((List.range len).map q) = ((List.range len).map fun i => (q i).1.length + (q i).2.length).sum := by unfold Rg.sumF; rw [List.map_map]; rfl
      omega
theorem opRespS {H : Type} {enc : TypeId × Value → H} {W : World} {base : Nat} {v : Value} {d : DataW H} {ps : List MemPlace} {b : Nat} (hv : Value.okWide Tryz.prog W .any base 31 v)
    (h : DataW.Trod enc Tryz.prog W 0 (fun _ => true) true 31 v d ps) (hb : Rows.uptoBulk d ≤ b) :
    ∃ (st : Int) (rs : List UInt8) (minor : Int) (A : Option Addr) (n c : Nat) (l : List Fld), v = respV st rs minor A n c ∧ RdF W A n l ∧ n + 3 ≤ b ∧ (∀ f ∈ l, f.1.length ≤ b ∧ f.2.length ≤ b) ∧ n ≤ c ∧ c ≤ maxLen ∧ Rg.sumF l ≤ b ∧ -9223372036854775808 ≤ st ∧ st ≤ 9223372036854775807 := by
  obtain ⟨f0, f1, f2, f3, he, t0, t1, t2, t3⟩ := four_of resp_shape
  have hd := resp_desc
  have h1 := resp_one
  rw [he] at hd h1
  obtain ⟨v0, v1, v2, v3, y0, y1, y2, y3, n, rfl, rfl, rfl, g0, g1, g2, g3⟩ := open_agg4 hd h1 resp_cells hv h
  rw [t0] at g0
  rw [t1] at g1
  rw [t2] at g2
  rw [t3] at g3
  obtain ⟨y0a, y0b⟩ := y0
  obtain ⟨y1a, y1b⟩ := y1
  obtain ⟨y2a, y2b⟩ := y2
  obtain ⟨y3a, y3b⟩ := y3
  obtain ⟨i0, rfl, b1, b2, rfl⟩ := int_of_trod g0
  obtain ⟨s1, rfl, rfl⟩ := str_of_trod g1
  obtain ⟨i2, rfl, _, _, rfl⟩ := int_of_trod g2
  simp only [Rows.uptoBulk, Rows.uptoBulkAll] at hb
  obtain ⟨A, k, c, l, rfl, hr, hn, hf, hc1, hc2, hs9⟩ := opFcS (b := b - 3) g3 (by omega)
  exact ⟨i0, s1, i2, A, k, c, l, rfl, hr, by omega, fun f hm => ⟨by have := (hf f hm).1; omega, by have := (hf f hm).2; omega⟩, hc1, hc2, by omega, b1, b2⟩

theorem ogU8_cells : Tryz.prog.cellsOf 5 = 1 := by kernel_rfl
theorem opFS {H : Type} {enc : TypeId × Value → H} {W : World} {base : Nat} {v : Value} {d : DataW H} {ps : List MemPlace} {b : Nat} (hv : Value.okWide Tryz.prog W .any base 29 v)
    (h : DataW.Trod enc Tryz.prog W 0 (fun _ => true) true 29 v d ps) (hb : Rows.uptoBulk d ≤ b) :
    ∃ (A : Option Addr) (n c : Nat) (l : List Fld), v = .slice A n c ∧ RdF W A n l ∧ n + 1 ≤ b ∧ (∀ f ∈ l, f.1.length ≤ b ∧ f.2.length ≤ b) ∧ n ≤ c ∧ c ≤ maxLen ∧ Rg.sumF l ≤ b := by
  obtain ⟨a0, n0, c0, rfl⟩ := okWide_slice Tryz.underlying29 hv
  obtain ⟨fuel, hf⟩ := h
  exact opFcS (v := .slice a0 n0 c0) (by simpa [Value.cells] using hf) hb
/-- Bytes as a cell. -/
theorem opBytesG {H : Type} {enc : TypeId × Value → H} {W : World} {fuel : Nat} {v : Value} {d : DataW H} {ps : List MemPlace} {b : Nat}
    (hf : DataW.trod enc Tryz.prog W 0 (fun _ => true) true fuel 32 [v] = some (d, ps)) (hb : Rows.uptoBulk d ≤ b) :
    ∃ (A : Option Addr) (n c : Nat) (l : List UInt8), v = .slice A n c ∧ RdB W A n l ∧ n ≤ b ∧ n ≤ c ∧ c ≤ maxLen := by
  rcases open_ints Tryz.underlying32 Tryz.underlying5 ogU8_cells hf with ⟨hcs, hx⟩ | ⟨a, len, cap, zs, hcs, _, hl, hm, hz, hx, hcell, hwf⟩
  · simp at hcs
    subst hcs
    exact ⟨none, 0, 0, [], rfl, RdB.nil _ _, by omega, by omega, by unfold maxLen; omega⟩
  · simp at hcs
    subst hcs
    simp at hz
    simp only [Prod.mk.injEq] at hx
    obtain ⟨rfl, rfl⟩ := hx
    have hbd : ∀ z ∈ zs, 0 ≤ z ∧ z ≤ 255 := fun z hz => by
      have := hwf z hz
      simpa [Lit.wf, IntKind.min, IntKind.max, IntKind.signed, IntKind.bits] using this
    have hget : ∀ i, i < len → (zs.getD i 0).toNat.toUInt8.toNat = (zs.getD i 0) := fun i hi => by
      have hi' : i < zs.length := by omega
      have := hbd _ (List.getElem_mem hi')
      rw [List.getD_eq_getElem?_getD, List.getElem?_eq_getElem hi']
      simp only [Option.getD_some]
      rw [UInt8.toNat_ofNat']
      omega
    refine ⟨some a, len, cap, (List.range len).map fun i => (zs.getD i 0).toNat.toUInt8, rfl, ⟨by simp, by simp, fun hn => ?_⟩, ?_, hl, hm⟩
    · have hsp := spot_of_cell (hcell 0 (by omega))
      obtain ⟨g, o, s⟩ := a
      have hs : s = none := by simpa [Addr.add] using hsp
      subst hs
      refine ⟨g, o, rfl, World.block_lt_of_cell? W ⟨g, o, none⟩ (by have := hcell 0 (by omega); simpa [Addr.add] using this), fun j u hu => ?_⟩
      have hj : j < len := by
        have := (List.getElem?_eq_some_iff.1 hu).1
        simpa using this
      rw [List.getElem?_map, List.getElem?_map, List.getElem?_range hj] at hu
      simp only [Option.map_some, Option.some.injEq] at hu
      subst hu
      have := hcell j (by omega)
      rw [addr_add] at this
      rw [this]
      unfold bytV
      rw [hget j hj]
    · have := bulks.slice_le (lits .u8 (zs.take len)) (H := H) (lits .u8 (zs.drop len))
      have hll : (lits (H := H) .u8 (zs.take len)).length = len := by simp [lits]; omega
      omega
theorem opBytesA {H : Type} {enc : TypeId × Value → H} {W : World} {base : Nat} {v : Value} {d : DataW H} {ps : List MemPlace} {b : Nat} (hv : Value.okWide Tryz.prog W .any base 32 v)
    (h : DataW.Trod enc Tryz.prog W 0 (fun _ => true) true 32 v d ps) (hb : Rows.uptoBulk d ≤ b) :
    ∃ (A : Option Addr) (n c : Nat) (l : List UInt8), v = .slice A n c ∧ RdB W A n l ∧ n ≤ b ∧ n ≤ c ∧ c ≤ maxLen := by
  obtain ⟨a0, n0, c0, rfl⟩ := okWide_slice Tryz.underlying32 hv
  obtain ⟨fuel, hf⟩ := h
  exact opBytesG (v := .slice a0 n0 c0) (by simpa [Value.cells] using hf) hb
/-- A slice of ints. -/
def RdI (w : World) (A : Option Addr) (n : Nat) (l : List Int) : Prop := l.length = n ∧ Rd w 1 A n (l.map (Value.int .i64))
theorem RdI.step {w w' : World} {n : Nat} {A : Option Addr} {l : List Int} (h : RdI w A n l) (hb : Below w.heap.size w w') : RdI w' A n l := ⟨h.1, h.2.step hb⟩
theorem RdI.at_ {w : World} {A : Option Addr} {n : Nat} {l : List Int} (h : RdI w A n l) {k : Nat} (hk : k < n) : ∃ g o z, A = some ⟨g, o, none⟩ ∧ g < w.heap.size ∧ Hid (l[k]? = some z) ∧ w.cell? ⟨g, o + k, none⟩ = some (.int .i64 z) := by
  obtain ⟨g, o, e, hg, hc⟩ := h.2.2 (by omega)
  have hk' : k < l.length := by rw [h.1]; exact hk
  exact ⟨g, o, l[k], e, hg, Lib.hid (List.getElem?_eq_getElem hk'), hc k _ (by simp [hk'])⟩
theorem OwnB.capB {w : World} {B : Nat} {A : Option Addr} {n c : Nat} {l : List UInt8} (h : OwnB w B (.slice A n c) l) : n ≤ c ∧ c ≤ maxLen := by
  rcases h.2 with ⟨h1, h2⟩ | ⟨g, cap, cur, h1, _, _, hc, hm, _⟩
  · injection h1 with _ h3 h4
    subst h3 h4; exact ⟨Nat.le_refl _, by unfold maxLen; omega⟩
  · injection h1 with h1 h2 h3
    subst h2 h3
    exact ⟨hc, hm⟩
theorem ogInt_cells : Tryz.prog.cellsOf 3 = 1 := by kernel_rfl
theorem opIntsA {H : Type} {enc : TypeId × Value → H} {W : World} {base : Nat} {v : Value} {d : DataW H} {ps : List MemPlace} (hv : Value.okWide Tryz.prog W .any base 52 v)
    (h : DataW.Trod enc Tryz.prog W 0 (fun _ => true) true 52 v d ps) :
    ∃ (A : Option Addr) (n c : Nat) (l : List Int), v = .slice A n c ∧ RdI W A n l ∧ (∀ z ∈ l, -9223372036854775808 ≤ z ∧ z ≤ 9223372036854775807) ∧ n ≤ c ∧ c ≤ maxLen := by
  obtain ⟨a0, n0, c0, rfl⟩ := okWide_slice Tryz.underlying52 hv
  obtain ⟨fuel, hf⟩ := h
  have hf : DataW.trod enc Tryz.prog W 0 (fun _ => true) true fuel 52 [.slice a0 n0 c0] = some (d, ps) := by simpa [Value.cells] using hf
  rcases open_ints Tryz.underlying52 Tryz.underlying3 ogInt_cells hf with ⟨hcs, hx⟩ | ⟨a, len, cap, zs, hcs, _, hl, hm, hz, hx, hcell, hwf⟩
  · simp at hcs
    obtain ⟨rfl, rfl, rfl⟩ := hcs
    exact ⟨none, 0, 0, [], rfl, ⟨rfl, Rd.nil _ _ _⟩, by simp, by omega, by unfold maxLen; omega⟩
  · simp at hcs
    obtain ⟨rfl, rfl, rfl⟩ := hcs
    simp at hz
    have hbd : ∀ z ∈ zs, -9223372036854775808 ≤ z ∧ z ≤ 9223372036854775807 := fun z hz => by
      have := hwf z hz
      simpa [Lit.wf, IntKind.min, IntKind.max, IntKind.signed, IntKind.bits] using this
    refine ⟨some a, n0, c0, zs.take n0, rfl, ⟨by rw [List.length_take]; omega, by rw [List.length_map, List.length_take]; omega, fun hn => ?_⟩, fun z hz2 => hbd z (List.mem_of_mem_take hz2), hl, hm⟩
    have hsp := spot_of_cell (hcell 0 (by omega))
    obtain ⟨g, o, s⟩ := a
    have hs : s = none := by simpa [Addr.add] using hsp
    subst hs
    refine ⟨g, o, rfl, World.block_lt_of_cell? W ⟨g, o, none⟩ (by have := hcell 0 (by omega); simpa [Addr.add] using this), fun j u hu => ?_⟩
    have hj : j < n0 := by
      have := (List.getElem?_eq_some_iff.1 hu).1
      rw [List.length_map, List.length_take] at this; omega
    have hj2 : j < zs.length := by omega
    rw [List.getElem?_map, List.getElem?_take, if_pos hj, List.getElem?_eq_getElem hj2] at hu
    simp only [Option.map_some, Option.some.injEq] at hu
    subst hu
    have := hcell j (by omega)
    rw [addr_add] at this
    rw [this]
    simp [List.getD_eq_getElem?_getD, hj2]
namespace Rg
theorem sum_le {l : List Fld} {n : List UInt8} : ((valuesL l n).map List.length).sum ≤ sumF l := by
  unfold valuesL sumF
  induction l with
  | nil => simp
  | cons f r ih =>
    rw [List.filter_cons]
    split
    · simp only [List.map_cons, List.sum_cons]; omega
    · simp only [List.map_cons, List.sum_cons]; omega
theorem get_sum (l : List Fld) (n : List UInt8) : (Frs.getL l n).length ≤ sumF l + 2 * l.length := by
  have h1 := sum_le (l := l) (n := n)
  have h2 := values_le l n
  have h3 : ∀ V : List (List UInt8), (Lib.join V [44, 32]).length ≤ (V.map List.length).sum + 2 * V.length := by
    intro V
    induction V with
    | nil => simp [Lib.join]
    | cons x r ih =>
      cases r with
      | nil => rw [Lib.join_one]; simp
      | cons y s =>
        rw [Lib.join_cons]
        rw [Lib.join_cons] at ih
        simp only [Lib.joinTail, List.map_cons, List.flatten_cons, List.length_append, List.sum_cons, List.length_cons, List.length_nil] at ih ⊢
        omega
  have := h3 (valuesL l n)
  unfold Frs.getL
  omega
theorem sum_filter {l : List Fld} (p : Fld → Bool) : sumF (l.filter p) ≤ sumF l := by
  unfold sumF
  induction l with
  | nil => simp
  | cons f r ih =>
    rw [List.filter_cons]
    split
    · simp only [List.map_cons, List.sum_cons]; omega
    · simp only [List.map_cons, List.sum_cons]; omega
theorem sum_put (l : List Fld) (n v : List UInt8) : sumF (putF l n v) ≤ sumF l + n.length + v.length := by
  have := sum_filter (l := l) (fun f => !([n].any (isB f)))
  unfold putF withoutF
  unfold sumF at *
  rw [List.map_append, List.sum_append]
  simp only [List.map_cons, List.map_nil, List.sum_cons, List.sum_nil]
  omega
end Rg
end Go.Proofs.YtcaekfebnhedpaaGreatDoor
