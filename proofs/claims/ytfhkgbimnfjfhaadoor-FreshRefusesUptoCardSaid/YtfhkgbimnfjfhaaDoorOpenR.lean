import Derived.Test.YtfhkgbimnfjfhaaDoorOpen
import Derived.Test.YtfhkgbimnfjfhaaDoorReq
import Derived.Lib.SmallJoins
/- Requests, responses and single fields as arguments: from the form's reading to lists of bytes. No conditions but the bound of the second form. -/
set_option linter.unusedVariables false
set_option linter.unusedSimpArgs false
namespace Go.Proofs.YtfhkgbimnfjfhaaDoor
open Go.RowKit

set_option maxRecDepth 100000
open Go.ChangeShapes Go.WideShapes Go.ChangeAt Go.RowKit Go.Deep Go.Joins
theorem four_of {fs : Array Field} {a b c d : TypeId} (h : fs.toList.map (fun f => f.type) = [a, b, c, d]) : ∃ f0 f1 f2 f3, fs = #[f0, f1, f2, f3] ∧ f0.type = a ∧ f1.type = b ∧ f2.type = c ∧ f3.type = d := by
  obtain ⟨l⟩ := fs
  match l, h with
  | [f0, f1, f2, f3], h =>
    simp at h
    exact ⟨f0, f1, f2, f3, rfl, h.1, h.2.1, h.2.2.1, h.2.2.2⟩
theorem two_of {fs : Array Field} {a b : TypeId} (h : fs.toList.map (fun f => f.type) = [a, b]) : ∃ f0 f1, fs = #[f0, f1] ∧ f0.type = a ∧ f1.type = b := by
  obtain ⟨l⟩ := fs
  match l, h with
  | [f0, f1], h =>
    simp at h
    exact ⟨f0, f1, rfl, h.1, h.2⟩
theorem opFc {H : Type} {enc : TypeId × Value → H} {W : World} {fuel : Nat} {v : Value} {d : DataW H} {ps : List MemPlace} {b : Nat}
    (hf : DataW.trod enc Tryd.prog W 0 (fun _ => true) true fuel 22 [v] = some (d, ps)) (hb : Rows.uptoBulk d ≤ b) :
    ∃ (A : Option Addr) (n c : Nat) (l : List Fld), v = .slice A n c ∧ RdF W A n l ∧ n ≤ b ∧ (∀ f ∈ l, f.1.length ≤ b ∧ f.2.length ≤ b) ∧ n ≤ c ∧ c ≤ maxLen := by
  obtain ⟨hsz, hsh⟩ := fld_shape
  obtain ⟨f0, f1, he⟩ : ∃ f0 f1, Tryd.prog.fieldsOf 63 = #[f0, f1] := by
    match h : Tryd.prog.fieldsOf 63, hsz with
    | ⟨[f0, f1]⟩, _ => exact ⟨f0, f1, rfl⟩
  obtain ⟨t0, t1, o0, o1⟩ := hsh f0 f1 he
  have hfd := fld_desc
  rw [he] at hfd
  rcases open_slice_pairs Tryd.underlying22 hfd (by kernel_rfl) o0 o1 (by rw [t0]; kernel_rfl) (by rw [t1]; kernel_rfl) hf with ⟨hcs, hx⟩ | ⟨a, len, cap, m, n, V0, V1, D0, D1, P0, P1, hcs, _, hl, hcm, hm, hx, hc⟩
  · simp at hcs
    subst hcs
    exact ⟨none, 0, 0, [], rfl, RdF.nil _ _, by omega, by simp, by omega, by unfold maxLen; omega⟩
  · simp at hcs
    subst hcs
    simp at hm
    subst hm
    simp only [Prod.mk.injEq] at hx
    obtain ⟨rfl, rfl⟩ := hx
    have hS : ∀ i, i < len → ∃ q : Fld, W.cell? (a.add (i * 2)) = some (.string (bs q.1)) ∧ W.cell? (a.add (i * 2 + 1)) = some (.string (bs q.2)) ∧ D0 i = .lit (.string q.1) ∧ D1 i = .lit (.string q.2) := by
      intro i hi
      obtain ⟨h1, h2, h3, h4⟩ := hc i (by omega)
      rw [t0] at h3
      rw [t1] at h4
      obtain ⟨s, e1, e2⟩ := str_of_trod h3
      obtain ⟨r, e3, e4⟩ := str_of_trod h4
      exact ⟨(s, r), by rw [h1, e1], by rw [h2, e3], e2, e4⟩
    obtain ⟨q, hq⟩ := choose_lt hS
    have hlen : ((List.range len).map q).length = len := by simp
    have hbulk : ∀ i, i < len → (q i).1.length ≤ b ∧ (q i).2.length ≤ b := by
      intro i hi
      have hmem : DataW.agg [D0 i, D1 i] ∈ (List.range len).map (fun i => DataW.agg (H := H) [D0 i, D1 i]) := List.mem_map.2 ⟨i, by simpa using hi, rfl⟩
      have h1 := bulks.part_le hmem
      have h2 := bulks.slice_elems ((List.range len).map (fun i => DataW.agg (H := H) [D0 i, D1 i])) ((List.range (m - len)).map fun j => DataW.agg [D0 (len + j), D1 (len + j)])
      obtain ⟨_, _, e1, e2⟩ := hq i hi
      rw [e1, e2] at h1
      simp only [Rows.uptoBulk, Rows.uptoBulkAll] at h1 h2 hb
      omega
    refine ⟨some a, len, m, (List.range len).map q, rfl, ⟨hlen, by rw [fcells_length, hlen], fun hn => ?_⟩, ?_, ?_, hl, hcm⟩
    · have hsp := spot_of_cell (hq 0 hn).1
      obtain ⟨g, o, s⟩ := a
      have hs : s = none := by simpa [Addr.add] using hsp
      subst hs
      refine ⟨g, o, rfl, World.block_lt_of_cell? W ⟨g, o, none⟩ (by have := (hq 0 hn).1; simpa [Addr.add] using this), fun j u hu => ?_⟩
      have hj : j < 2 * len := by
        have := (List.getElem?_eq_some_iff.1 hu).1
        rw [fcells_length, hlen] at this; omega
      rcases Nat.mod_two_eq_zero_or_one j with h0 | h0
      · obtain ⟨k, rfl⟩ : ∃ k, j = 2 * k := ⟨j / 2, by omega⟩
        have hk : k < ((List.range len).map q).length := by rw [hlen]; omega
        rw [fcells_get1 _ k hk] at hu
        have := (hq k (by omega)).1
        rw [addr_add, Nat.mul_comm] at this
        rw [this, ← hu]
        simp [strV]
      · obtain ⟨k, rfl⟩ : ∃ k, j = 2 * k + 1 := ⟨j / 2, by omega⟩
        have hk : k < ((List.range len).map q).length := by rw [hlen]; omega
        rw [fcells_get2 _ k hk] at hu
        have := (hq k (by omega)).2.1
        rw [addr_add, Nat.mul_comm] at this
        rw [this, ← hu]
        simp [strV]
    · have := bulks.slice_le ((List.range len).map (fun i => DataW.agg (H := H) [D0 i, D1 i])) ((List.range (m - len)).map fun j => DataW.agg [D0 (len + j), D1 (len + j)])
      simp at this
      omega
    · intro f hf
      obtain ⟨i, hi, rfl⟩ := List.mem_map.1 hf
      exact hbulk i (by simpa using hi)
theorem int_of_trod {H : Type} {enc : TypeId × Value → H} {W : World} {base : Nat} {sp : Nat → Bool} {n : Nat} {v : Value} {d : DataW H} {ps : List MemPlace}
    (h : DataW.trod enc Tryd.prog W base sp true n 3 [v] = some (d, ps)) : ∃ i : Int, v = .int .i64 i ∧ -9223372036854775808 ≤ i ∧ i ≤ 9223372036854775807 ∧ d = .lit (.int .i64 i) := by
  obtain ⟨i, e1, e2, wf⟩ := DataW.trod_int Tryd.underlying3 h
  simp at e1 e2
  obtain ⟨rfl, _⟩ := e2
  refine ⟨i, e1, ?_, ?_, rfl⟩ <;> simp [Lit.wf, IntKind.min, IntKind.max, IntKind.signed, IntKind.bits] at wf <;> omega
theorem req_desc : Tryd.prog.underlying 24 = some (.struct (Tryd.prog.fieldsOf 24)) := by kernel_rfl
theorem req_shape : (Tryd.prog.fieldsOf 24).toList.map (fun f => f.type) = [9, 9, 3, 22] := by kernel_rfl
theorem req_one : oneCellFields Tryd.prog (Tryd.prog.fieldsOf 24) = true := by kernel_rfl
theorem req_cells : Tryd.prog.cellsOf 24 = 4 := by kernel_rfl
/-- A request as an argument. -/
theorem opReq {H : Type} {enc : TypeId × Value → H} {W : World} {base : Nat} {v : Value} {d : DataW H} {ps : List MemPlace} {b : Nat} (hv : Value.okWide Tryd.prog W .any base 24 v)
    (h : DataW.Trod enc Tryd.prog W 0 (fun _ => true) true 24 v d ps) (hb : Rows.uptoBulk d ≤ b) :
    ∃ (m t : List UInt8) (minor : Int) (A : Option Addr) (n c : Nat) (l : List Fld), v = reqV m t minor A n c ∧ RdF W A n l ∧ n + 3 ≤ b ∧ (∀ f ∈ l, f.1.length ≤ b ∧ f.2.length ≤ b) ∧ n ≤ c ∧ c ≤ maxLen := by
  obtain ⟨f0, f1, f2, f3, he, t0, t1, t2, t3⟩ := four_of req_shape
  have hd := req_desc
  have h1 := req_one
  rw [he] at hd h1
  obtain ⟨v0, v1, v2, v3, y0, y1, y2, y3, n, rfl, rfl, rfl, g0, g1, g2, g3⟩ := open_agg4 hd h1 req_cells hv h
  rw [t0] at g0
  rw [t1] at g1
  rw [t2] at g2
  rw [t3] at g3
  obtain ⟨y0a, y0b⟩ := y0
  obtain ⟨y1a, y1b⟩ := y1
  obtain ⟨y2a, y2b⟩ := y2
  obtain ⟨y3a, y3b⟩ := y3
  obtain ⟨s0, rfl, rfl⟩ := str_of_trod g0
  obtain ⟨s1, rfl, rfl⟩ := str_of_trod g1
  obtain ⟨i2, rfl, _, _, rfl⟩ := int_of_trod g2
  simp only [Rows.uptoBulk, Rows.uptoBulkAll] at hb
  obtain ⟨A, k, c, l, rfl, hr, hn, hf, hc1, hc2⟩ := opFc (b := b - 3) g3 (by omega)
  exact ⟨s0, s1, i2, A, k, c, l, rfl, hr, by omega, fun f hm => ⟨by have := (hf f hm).1; omega, by have := (hf f hm).2; omega⟩, hc1, hc2⟩
theorem resp_desc : Tryd.prog.underlying 26 = some (.struct (Tryd.prog.fieldsOf 26)) := by kernel_rfl
theorem resp_shape : (Tryd.prog.fieldsOf 26).toList.map (fun f => f.type) = [3, 9, 3, 22] := by kernel_rfl
theorem resp_one : oneCellFields Tryd.prog (Tryd.prog.fieldsOf 26) = true := by kernel_rfl
theorem resp_cells : Tryd.prog.cellsOf 26 = 4 := by kernel_rfl
/-- A response as an argument. -/
theorem opResp {H : Type} {enc : TypeId × Value → H} {W : World} {base : Nat} {v : Value} {d : DataW H} {ps : List MemPlace} {b : Nat} (hv : Value.okWide Tryd.prog W .any base 26 v)
    (h : DataW.Trod enc Tryd.prog W 0 (fun _ => true) true 26 v d ps) (hb : Rows.uptoBulk d ≤ b) :
    ∃ (st : Int) (rs : List UInt8) (minor : Int) (A : Option Addr) (n c : Nat) (l : List Fld), v = respV st rs minor A n c ∧ RdF W A n l ∧ n + 3 ≤ b ∧ (∀ f ∈ l, f.1.length ≤ b ∧ f.2.length ≤ b) ∧ n ≤ c ∧ c ≤ maxLen ∧ -9223372036854775808 ≤ st ∧ st ≤ 9223372036854775807 := by
  obtain ⟨f0, f1, f2, f3, he, t0, t1, t2, t3⟩ := four_of resp_shape
  have hd := resp_desc
  have h1 := resp_one
  rw [he] at hd h1
  obtain ⟨v0, v1, v2, v3, y0, y1, y2, y3, n, rfl, rfl, rfl, g0, g1, g2, g3⟩ := open_agg4 hd h1 resp_cells hv h
  rw [t0] at g0
  rw [t1] at g1
  rw [t2] at g2
  rw [t3] at g3
  obtain ⟨y0a, y0b⟩ := y0
  obtain ⟨y1a, y1b⟩ := y1
  obtain ⟨y2a, y2b⟩ := y2
  obtain ⟨y3a, y3b⟩ := y3
  obtain ⟨i0, rfl, b1, b2, rfl⟩ := int_of_trod g0
  obtain ⟨s1, rfl, rfl⟩ := str_of_trod g1
  obtain ⟨i2, rfl, _, _, rfl⟩ := int_of_trod g2
  simp only [Rows.uptoBulk, Rows.uptoBulkAll] at hb
  obtain ⟨A, k, c, l, rfl, hr, hn, hf, hc1, hc2⟩ := opFc (b := b - 3) g3 (by omega)
  exact ⟨i0, s1, i2, A, k, c, l, rfl, hr, by omega, fun f hm => ⟨by have := (hf f hm).1; omega, by have := (hf f hm).2; omega⟩, hc1, hc2, b1, b2⟩
theorem fld_one : oneCellFields Tryd.prog (Tryd.prog.fieldsOf 63) = true := by kernel_rfl
theorem fld_cellsOf : Tryd.prog.cellsOf 63 = 2 := by kernel_rfl
theorem fld_types : (Tryd.prog.fieldsOf 63).toList.map (fun f => f.type) = [9, 9] := by kernel_rfl
/-- A field as an argument. -/
theorem opFld {H : Type} {enc : TypeId × Value → H} {W : World} {base : Nat} {v : Value} {d : DataW H} {ps : List MemPlace} {b : Nat} (hv : Value.okWide Tryd.prog W .any base 63 v)
    (h : DataW.Trod enc Tryd.prog W 0 (fun _ => true) true 63 v d ps) (hb : Rows.uptoBulk d ≤ b) :
    ∃ f : Fld, v = .agg #[.string (bs f.1), .string (bs f.2)] ∧ f.1.length ≤ b ∧ f.2.length ≤ b := by
  obtain ⟨f0, f1, he, t0, t1⟩ := two_of fld_types
  have hd := fld_desc
  have h1 := fld_one
  rw [he] at hd h1
  obtain ⟨v0, v1, y0, y1, n, rfl, rfl, rfl, g0, g1⟩ := open_agg2 hd h1 fld_cellsOf hv h
  rw [t0] at g0
  rw [t1] at g1
  obtain ⟨y0a, y0b⟩ := y0
  obtain ⟨y1a, y1b⟩ := y1
  obtain ⟨s0, rfl, rfl⟩ := str_of_trod g0
  obtain ⟨s1, rfl, rfl⟩ := str_of_trod g1
  simp only [Rows.uptoBulk, Rows.uptoBulkAll] at hb
  exact ⟨(s0, s1), rfl, by simp only; omega, by simp only; omega⟩
end Go.Proofs.YtfhkgbimnfjfhaaDoor

