/- The laws' arguments opened: scripts whose texts are texts, one step by value. No conditions. -/
import Derived.Test.YtepedjnmliclkaaOpenO
import Derived.Test.YtepedjnmliclkaaLruL
import Derived.Lib.SmallJoins
set_option linter.unusedVariables false
set_option linter.unusedSimpArgs false
namespace Go.Proofs.Ytepedjnmliclkaa
open Go.RowKit

set_option maxRecDepth 100000
open Go.ChangeShapes Go.WideShapes Go.ChangeAt Go.RowKit Go.Deep Go.Joins
theorem strC2 {H : Type} {enc : TypeId × Value → H} {W : World} {base : Nat} {sp : Nat → Bool} {n : Nat} {v : Value} {y : DataW H × List MemPlace} (h : DataW.trod enc Try.prog W base sp true n 9 [v] = some y) : ∃ l : List UInt8, v = .string (bs l) ∧ l.length ≤ maxLen := by
  obtain ⟨s, e1, _, e3⟩ := DataW.trod_string Try.underlying9 h
  simp at e1
  exact ⟨s.data.toList, e1, by simpa using e3⟩
/-- A script as an argument. -/
theorem opOps2 {T S : TypeId} (hs : Try.prog.underlying S = some (.slice T)) (he : Try.prog.underlying T = some (.struct (Try.prog.fieldsOf T))) (hone : oneCellFields Try.prog (Try.prog.fieldsOf T) = true) (hC : Try.prog.cellsOf T = 4)
    (hty : (Try.prog.fieldsOf T).toList.map (fun f => f.type) = [3, 9, 3, 3])
    {H : Type} {enc : TypeId × Value → H} {W : World} {base : Nat} {v : Value} {d : DataW H} {ps : List MemPlace} (hv : Value.okWide Try.prog W .any base S v)
    (h : DataW.Trod enc Try.prog W 0 (fun _ => true) true S v d ps) : ∃ (A : Option Addr) (n c : Nat) (l : List Op4), v = .slice A n c ∧ RdO W A n l ∧ n ≤ c ∧ c ≤ 9223372036854775807 ∧ ∀ x ∈ l, x.k.length ≤ maxLen := by
  obtain ⟨a0, n0, c0, rfl⟩ := okWide_slice hs hv
  obtain ⟨fuel, hf⟩ := h
  obtain ⟨f0, f1, f2, f3, hfe, t0, t1, t2, t3⟩ := four_of hty
  rw [hfe] at he hone
  rcases open_slice_fields hs he hone (by rw [hC]; rfl) hf with ⟨hcs, _⟩ | ⟨a, len, cap, m, D, Pl, hcs, _, hl, hcm, hm, hx, hc⟩
  · simp [Value.cells] at hcs
    obtain ⟨rfl, rfl, rfl⟩ := hcs
    exact ⟨none, 0, 0, [], rfl, RdO.nil _ _, by omega, by omega, by simp⟩
  · simp [Value.cells] at hcs
    obtain ⟨rfl, rfl, rfl⟩ := hcs
    simp at hm
    subst hm
    have hS : ∀ i, i < n0 → ∃ q : Op4, W.cell? (a.add (i * 4)) = some (.int .i64 q.w) ∧ W.cell? (a.add (i * 4 + 1)) = some (.string (bs q.k)) ∧ W.cell? (a.add (i * 4 + 2)) = some (.int .i64 q.a) ∧ W.cell? (a.add (i * 4 + 3)) = some (.int .i64 q.b) ∧ q.k.length ≤ maxLen := by
      intro i hi
      obtain ⟨ys, n, _, _, _, hg⟩ := hc i (by omega)
      obtain ⟨v0, y0, h0, _, g0⟩ := hg 0 f0 rfl
      obtain ⟨v1, y1, h1, _, g1⟩ := hg 1 f1 rfl
      obtain ⟨v2, y2, h2, _, g2⟩ := hg 2 f2 rfl
      obtain ⟨v3, y3, h3, _, g3⟩ := hg 3 f3 rfl
      rw [t0] at g0
      rw [t1] at g1
      rw [t2] at g2
      rw [t3] at g3
      obtain ⟨i0, rfl⟩ := intC g0
      obtain ⟨s1, rfl, hk1⟩ := strC2 g1
      obtain ⟨i2, rfl⟩ := intC g2
      obtain ⟨i3, rfl⟩ := intC g3
      exact ⟨⟨i0, s1, i2, i3⟩, h0, h1, h2, h3, hk1⟩
    obtain ⟨q, hq⟩ := choose_lt hS
    have hlen : ((List.range n0).map q).length = n0 := by simp
    refine ⟨some a, n0, m, (List.range n0).map q, rfl, ⟨hlen, by rw [opC_length, hlen], fun hn => ?_⟩, by omega, by unfold maxLen at hcm; omega, fun x hx => by
      obtain ⟨i, hi, rfl⟩ := List.mem_map.1 hx
      exact (hq i (by simpa using hi)).2.2.2.2⟩
    have hsp := spot_of_cell (hq 0 hn).1
    obtain ⟨g, o, s⟩ := a
    have hs' : s = none := by simpa [Addr.add] using hsp
    subst hs'
    refine ⟨g, o, rfl, World.block_lt_of_cell? W ⟨g, o, none⟩ (by have := (hq 0 hn).1; simpa [Addr.add] using this), fun j u hu => ?_⟩
    have hj : j < n0 * 4 := by
      have := (List.getElem?_eq_some_iff.1 hu).1
      rw [opC_length, hlen] at this; omega
    obtain ⟨k, r, rfl, hr⟩ : ∃ k r, j = k * 4 + r ∧ r < 4 := ⟨j / 4, j % 4, by omega, by omega⟩
    have hk : k < ((List.range n0).map q).length := by rw [hlen]; omega
    have hk0 : k < n0 := by omega
    obtain ⟨e0, e1, e2, e3⟩ := opC_get _ k hk
    obtain ⟨g0, g1, g2, g3, -⟩ := hq k hk0
    rw [addr_add] at g0 g1 g2 g3
    have hqk : ((List.range n0).map q)[k] = q k := by simp
    rw [hqk] at e0 e1 e2 e3
    match r, hr with
    | 0, _ => rw [Nat.add_zero] at hu ⊢; rw [e0] at hu; rw [g0]; exact hu
    | 1, _ => rw [e1] at hu; rw [g1]; exact hu
    | 2, _ => rw [e2] at hu; rw [g2]; exact hu
    | 3, _ => rw [e3] at hu; rw [g3]; exact hu

theorem opOp14k {H : Type} {enc : TypeId × Value → H} {W : World} {base : Nat} {v : Value} {d : DataW H} {ps : List MemPlace} (hv : Value.okWide Try.prog W .any base 22 v)
    (h : DataW.Trod enc Try.prog W 0 (fun _ => true) true 22 v d ps) : ∃ (A : Option Addr) (n c : Nat) (l : List Op4), v = .slice A n c ∧ RdO W A n l ∧ n ≤ c ∧ c ≤ 9223372036854775807 ∧ ∀ x ∈ l, x.k.length ≤ maxLen :=
  opOps2 Try.underlying22 (by kernel_rfl) (by kernel_rfl) (by kernel_rfl) (by kernel_rfl) hv h
theorem opv_desc : Try.prog.underlying 32 = some (.struct (Try.prog.fieldsOf 32)) := by kernel_rfl
theorem opv_shape : (Try.prog.fieldsOf 32).toList.map (fun f => f.type) = [3, 9, 3, 3] := by kernel_rfl
theorem opv_one : oneCellFields Try.prog (Try.prog.fieldsOf 32) = true := by kernel_rfl
theorem opv_cells : Try.prog.cellsOf 32 = 4 := by kernel_rfl
/-- One step by value. -/
theorem opOpV {H : Type} {enc : TypeId × Value → H} {W : World} {base : Nat} {v : Value} {d : DataW H} {ps : List MemPlace} (hv : Value.okWide Try.prog W .any base 32 v)
    (h : DataW.Trod enc Try.prog W 0 (fun _ => true) true 32 v d ps) : ∃ x : Op4, v = .agg #[.int .i64 x.w, .string (bs x.k), .int .i64 x.a, .int .i64 x.b] ∧ x.k.length ≤ maxLen := by
  obtain ⟨f0, f1, f2, f3, he, t0, t1, t2, t3⟩ := four_of opv_shape
  have hd := opv_desc
  have h1 := opv_one
  rw [he] at hd h1
  obtain ⟨v0, v1, v2, v3, y0, y1, y2, y3, n, rfl, rfl, rfl, g0, g1, g2, g3⟩ := open_agg4 hd h1 opv_cells hv h
  rw [t0] at g0
  rw [t1] at g1
  rw [t2] at g2
  rw [t3] at g3
  obtain ⟨i0, rfl⟩ := intC g0
  obtain ⟨s1, rfl, hk1⟩ := strC2 g1
  obtain ⟨i2, rfl⟩ := intC g2
  obtain ⟨i3, rfl⟩ := intC g3
  exact ⟨⟨i0, s1, i2, i3⟩, rfl, hk1⟩
end Go.Proofs.Ytepedjnmliclkaa
