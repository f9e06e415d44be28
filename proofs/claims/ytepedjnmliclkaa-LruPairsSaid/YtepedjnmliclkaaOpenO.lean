/- The laws' arguments opened: scripts, texts, numbers. No conditions; lines of the guide's worked lemmas turned to this claim. -/
import Derived.Test.YtepedjnmliclkaaRows
import Derived.Test.YtepedjnmliclkaaOps
import Derived.Test.YtepedjnmliclkaaPost
import Derived.Deep.Slices
import Derived.Deep.Fields
import Derived.ChangeSame
import Derived.ProofKit
import Derived.OpenShut
import Derived.SizedLaws
import Derived.JoinedCond
set_option linter.unusedVariables false
set_option linter.unusedSimpArgs false
set_option maxRecDepth 100000
namespace Go.Proofs.Ytepedjnmliclkaa
open Go.ChangeShapes Go.WideShapes Go.ChangeAt Go.RowKit Go.Deep
section
variable {H : Type} {enc : TypeId × Value → H} {P : Program} {w : World} {base : Nat} {spare : Nat → Bool} {held : Bool}
theorem open_slice_fields {t e : TypeId} {fs : Array Field} {fuel : Nat} {cs : List Value} {x : DataW H × List MemPlace} (ht : P.underlying t = some (.slice e)) (he : P.underlying e = some (.struct fs))
    (hone : oneCellFields P fs = true) (hC : P.cellsOf e = fs.size) (h : DataW.trod enc P w base spare held fuel t cs = some x) :
    (cs = [.slice none 0 0] ∧ x = (.nil, [])) ∨
    ∃ (a : Addr) (len cap m : Nat) (D : Nat → DataW H) (Pl : Nat → List MemPlace), cs = [.slice (some a) len cap] ∧ base ≤ a.block ∧ len ≤ cap ∧ cap ≤ maxLen ∧ m = (if spare a.block then cap else len) ∧
      x = (.slice ((List.range len).map D) ((List.range (m - len)).map fun j => D (len + j)), MemPlace.row a (m * fs.size) ++ (List.range m).flatMap Pl) ∧
      ∀ i, i < m → ∃ (ys : List (DataW H × List MemPlace)) (n : Nat), D i = .agg (ys.map (·.1)) ∧ Pl i = ys.flatMap (·.2) ∧ ys.length = fs.size ∧
        ∀ (j : Nat) (f : Field), fs[j]? = some f → ∃ (v : Value) (y : DataW H × List MemPlace), w.cell? (a.add (i * fs.size + j)) = some v ∧ ys[j]? = some y ∧ DataW.trod enc P w base spare held n f.type [v] = some y := by
  rcases open_slice ht h with h0 | ⟨a, len, cap, m, n, D, Pl, hcs, hb, hl, hm, hmm, hx, hi⟩
  · exact .inl h0
  · refine .inr ⟨a, len, cap, m, D, Pl, hcs, hb, hl, hm, hmm, by rw [hC] at hx; exact hx, fun i him => ?_⟩
    obtain ⟨cs', hc, ht'⟩ := hi i him
    rw [hC] at hc
    obtain ⟨ys, n', hn', hy, hlen, hyl, hf⟩ := DataW.trod_struct he ht'
    obtain ⟨_, hcl, hat⟩ := World.cells?_some hc
    simp only [Prod.mk.injEq] at hy
    refine ⟨ys, n', hy.1, hy.2, hyl, fun j f hj => ?_⟩
    obtain ⟨ho, hk⟩ := hone_of hone j f hj
    have hjl : j < fs.size := (Array.getElem?_eq_some_iff.1 hj).1
    have hcell := hat j hjl
    have hv : cs'[j]? = some (cs'[j]'(by omega)) := List.getElem?_eq_getElem (by omega)
    have h1 := hf j f hj
    rw [ho, hk] at h1
    have hone' : (cs'.drop j).take 1 = [cs'[j]'(by omega)] := by
      rw [List.drop_eq_getElem_cons (by omega)]
      rfl
    rw [hone'] at h1
    have hys : ys[j]? = some (ys[j]'(by omega)) := List.getElem?_eq_getElem (by omega)
    refine ⟨_, _, ?_, hys, h1.trans hys⟩
    rw [← Go.Deep.add_add, hcell, hv]
end
/-- An argument reads as it did where below the old heap all stands. -/
theorem arg_stays {H : Type} {enc : TypeId × Value → H} {P : Program} {t : TypeId} (hl : laidOutB P = true) (hr : P.readableRec t = true) (hrow : t < P.types.size) {W W' : World} {v : Value} {d : DataW H} {ps : List MemPlace}
    (h : DataW.Trod enc P W 0 (fun _ => true) true t v d ps) (hb : Below W.heap.size W W') (hlt : ∀ x ∈ ps, x.block < W.heap.size) (sp : Nat → Bool) (hsp : ∀ x ∈ ps, sp x.block = true) :
    DataW.Trod enc P W' 0 sp true t v d ps :=
  WideElems.Trod_stays hl hr hrow h (fun x hx => hb.same (hlt x hx)) hsp
theorem laidOut : laidOutB Try.prog = true := by kernel_rfl
theorem opS {H : Type} {enc : TypeId × Value → H} {W : World} {base : Nat} {v : Value} {d : DataW H} {ps : List MemPlace} (hv : Value.okWide Try.prog W .any base 9 v)
    (h : DataW.Trod enc Try.prog W 0 (fun _ => true) true 9 v d ps) : ∃ l : List UInt8, v = .string (bs l) ∧ d = .lit (.string l) := by
  obtain ⟨s, rfl, rfl, _, _⟩ := Go.ChangeMaps.open_string Try.underlying9 hv h
  exact ⟨s.data.toList, rfl, rfl⟩
theorem opI {H : Type} {enc : TypeId × Value → H} {W : World} {base : Nat} {v : Value} {d : DataW H} {ps : List MemPlace} (hv : Value.okWide Try.prog W .any base 3 v)
    (h : DataW.Trod enc Try.prog W 0 (fun _ => true) true 3 v d ps) : ∃ n : Int, v = .int .i64 n ∧ -9223372036854775808 ≤ n ∧ n ≤ 9223372036854775807 := by
  obtain ⟨n, rfl, _, _, wf⟩ := open_int Try.underlying3 hv h
  refine ⟨n, rfl, ?_⟩
  simpa [Lit.wf, IntKind.min, IntKind.max, IntKind.signed, IntKind.bits] using wf
theorem spot_of_cell {w : World} {a : Addr} {v : Value} (h : w.cell? a = some v) : a.spot = none := by
  unfold World.cell? at h
  split at h
  · split at h
    · cases h
    · rename_i h'; simpa using h'
  · cases h
theorem four_of {fs : Array Field} {a b c d : TypeId} (h : fs.toList.map (fun f => f.type) = [a, b, c, d]) : ∃ f0 f1 f2 f3, fs = #[f0, f1, f2, f3] ∧ f0.type = a ∧ f1.type = b ∧ f2.type = c ∧ f3.type = d := by
  obtain ⟨l⟩ := fs
  match l, h with
  | [f0, f1, f2, f3], h =>
    simp at h
    exact ⟨f0, f1, f2, f3, rfl, h.1, h.2.1, h.2.2.1, h.2.2.2⟩
instance : Inhabited Op4 := ⟨⟨0, [], 0, 0⟩⟩
theorem intC {H : Type} {enc : TypeId × Value → H} {W : World} {base : Nat} {sp : Nat → Bool} {n : Nat} {v : Value} {y : DataW H × List MemPlace} (h : DataW.trod enc Try.prog W base sp true n 3 [v] = some y) : ∃ i : Int, v = .int .i64 i := by
  obtain ⟨i, e1, _, _⟩ := DataW.trod_int Try.underlying3 h
  exact ⟨i, by simpa using e1⟩
theorem strC {H : Type} {enc : TypeId × Value → H} {W : World} {base : Nat} {sp : Nat → Bool} {n : Nat} {v : Value} {y : DataW H × List MemPlace} (h : DataW.trod enc Try.prog W base sp true n 9 [v] = some y) : ∃ l : List UInt8, v = .string (bs l) := by
  obtain ⟨s, e1, _, _⟩ := DataW.trod_string Try.underlying9 h
  simp at e1
  exact ⟨s.data.toList, e1⟩
/-- A script as an argument. -/
theorem opOps {T S : TypeId} (hs : Try.prog.underlying S = some (.slice T)) (he : Try.prog.underlying T = some (.struct (Try.prog.fieldsOf T))) (hone : oneCellFields Try.prog (Try.prog.fieldsOf T) = true) (hC : Try.prog.cellsOf T = 4)
    (hty : (Try.prog.fieldsOf T).toList.map (fun f => f.type) = [3, 9, 3, 3])
    {H : Type} {enc : TypeId × Value → H} {W : World} {base : Nat} {v : Value} {d : DataW H} {ps : List MemPlace} (hv : Value.okWide Try.prog W .any base S v)
    (h : DataW.Trod enc Try.prog W 0 (fun _ => true) true S v d ps) : ∃ (A : Option Addr) (n c : Nat) (l : List Op4), v = .slice A n c ∧ RdO W A n l ∧ n ≤ c ∧ c ≤ 9223372036854775807 := by
  obtain ⟨a0, n0, c0, rfl⟩ := okWide_slice hs hv
  obtain ⟨fuel, hf⟩ := h
  obtain ⟨f0, f1, f2, f3, hfe, t0, t1, t2, t3⟩ := four_of hty
  rw [hfe] at he hone
  rcases open_slice_fields hs he hone (by rw [hC]; rfl) hf with ⟨hcs, _⟩ | ⟨a, len, cap, m, D, Pl, hcs, _, hl, hcm, hm, hx, hc⟩
  · simp [Value.cells] at hcs
    obtain ⟨rfl, rfl, rfl⟩ := hcs
    exact ⟨none, 0, 0, [], rfl, RdO.nil _ _, by omega, by omega⟩
  · simp [Value.cells] at hcs
    obtain ⟨rfl, rfl, rfl⟩ := hcs
    simp at hm
    subst hm
    have hS : ∀ i, i < n0 → ∃ q : Op4, W.cell? (a.add (i * 4)) = some (.int .i64 q.w) ∧ W.cell? (a.add (i * 4 + 1)) = some (.string (bs q.k)) ∧ W.cell? (a.add (i * 4 + 2)) = some (.int .i64 q.a) ∧ W.cell? (a.add (i * 4 + 3)) = some (.int .i64 q.b) := by
      intro i hi
      obtain ⟨ys, n, _, _, _, hg⟩ := hc i (by omega)
      obtain ⟨v0, y0, h0, _, g0⟩ := hg 0 f0 rfl
      obtain ⟨v1, y1, h1, _, g1⟩ := hg 1 f1 rfl
      obtain ⟨v2, y2, h2, _, g2⟩ := hg 2 f2 rfl
      obtain ⟨v3, y3, h3, _, g3⟩ := hg 3 f3 rfl
      rw [t0] at g0
      rw [t1] at g1
      rw [t2] at g2
      rw [t3] at g3
      obtain ⟨i0, rfl⟩ := intC g0
      obtain ⟨s1, rfl⟩ := strC g1
      obtain ⟨i2, rfl⟩ := intC g2
      obtain ⟨i3, rfl⟩ := intC g3
      exact ⟨⟨i0, s1, i2, i3⟩, h0, h1, h2, h3⟩
    obtain ⟨q, hq⟩ := choose_lt hS
    have hlen : ((List.range n0).map q).length = n0 := by simp
    refine ⟨some a, n0, m, (List.range n0).map q, rfl, ⟨hlen, by rw [opC_length, hlen], fun hn => ?_⟩, by omega, by unfold maxLen at hcm; omega⟩
    have hsp := spot_of_cell (hq 0 hn).1
    obtain ⟨g, o, s⟩ := a
    have hs' : s = none := by simpa [Addr.add] using hsp
    subst hs'
    refine ⟨g, o, rfl, World.block_lt_of_cell? W ⟨g, o, none⟩ (by have := (hq 0 hn).1; simpa [Addr.add] using this), fun j u hu => ?_⟩
    have hj : j < n0 * 4 := by
      have := (List.getElem?_eq_some_iff.1 hu).1
      rw [opC_length, hlen] at this; omega
    obtain ⟨k, r, rfl, hr⟩ : ∃ k r, j = k * 4 + r ∧ r < 4 := ⟨j / 4, j % 4, by omega, by omega⟩
    have hk : k < ((List.range n0).map q).length := by rw [hlen]; omega
    have hk0 : k < n0 := by omega
    obtain ⟨e0, e1, e2, e3⟩ := opC_get _ k hk
    obtain ⟨g0, g1, g2, g3⟩ := hq k hk0
    rw [addr_add] at g0 g1 g2 g3
    have hqk : ((List.range n0).map q)[k] = q k := by simp
    rw [hqk] at e0 e1 e2 e3
    match r, hr with
    | 0, _ => rw [Nat.add_zero] at hu ⊢; rw [e0] at hu; rw [g0]; exact hu
    | 1, _ => rw [e1] at hu; rw [g1]; exact hu
    | 2, _ => rw [e2] at hu; rw [g2]; exact hu
    | 3, _ => rw [e3] at hu; rw [g3]; exact hu
theorem opOp23 {H : Type} {enc : TypeId × Value → H} {W : World} {base : Nat} {v : Value} {d : DataW H} {ps : List MemPlace} (hv : Value.okWide Try.prog W .any base 64 v)
    (h : DataW.Trod enc Try.prog W 0 (fun _ => true) true 64 v d ps) : ∃ (A : Option Addr) (n c : Nat) (l : List Op4), v = .slice A n c ∧ RdO W A n l ∧ n ≤ c ∧ c ≤ 9223372036854775807 :=
  opOps Try.underlying64 (by kernel_rfl) (by kernel_rfl) (by kernel_rfl) (by kernel_rfl) hv h
theorem opOp14 {H : Type} {enc : TypeId × Value → H} {W : World} {base : Nat} {v : Value} {d : DataW H} {ps : List MemPlace} (hv : Value.okWide Try.prog W .any base 22 v)
    (h : DataW.Trod enc Try.prog W 0 (fun _ => true) true 22 v d ps) : ∃ (A : Option Addr) (n c : Nat) (l : List Op4), v = .slice A n c ∧ RdO W A n l ∧ n ≤ c ∧ c ≤ 9223372036854775807 :=
  opOps Try.underlying22 (by kernel_rfl) (by kernel_rfl) (by kernel_rfl) (by kernel_rfl) hv h
end Go.Proofs.Ytepedjnmliclkaa
