/- Joined texts: Asks as an argument. The conditions stand in each line. -/
import Derived.Test.YtgkphjbcaidcpaaGreatDoorM6
import Derived.Test.YtgkphjbcaidcpaaGreatDoorM24
import Derived.Deep.Slices
import Derived.Deep.Fields
set_option linter.unusedVariables false
set_option linter.unusedSimpArgs false
namespace Go.Proofs.YtgkphjbcaidcpaaGreatDoor
open Go.RowKit

set_option maxRecDepth 100000
open Go.ChangeShapes Go.WideShapes Go.ChangeAt Go.RowKit Go.Deep
section
variable {H : Type} {enc : TypeId × Value → H} {P : Program} {w : World} {base : Nat} {spare : Nat → Bool} {held : Bool}
theorem open_slice_fields {t e : TypeId} {fs : Array Field} {fuel : Nat} {cs : List Value} {x : DataW H × List MemPlace} (ht : P.underlying t = some (.slice e)) (he : P.underlying e = some (.struct fs))
    (hone : oneCellFields P fs = true) (hC : P.cellsOf e = fs.size) (h : DataW.trod enc P w base spare held fuel t cs = some x) :
    (cs = [.slice none 0 0] ∧ x = (.nil, [])) ∨
    ∃ (a : Addr) (len cap m : Nat) (D : Nat → DataW H) (Pl : Nat → List MemPlace), cs = [.slice (some a) len cap] ∧ base ≤ a.block ∧ len ≤ cap ∧ cap ≤ maxLen ∧ m = (if spare a.block then cap else len) ∧
      x = (.slice ((List.range len).map D) ((List.range (m - len)).map fun j => D (len + j)), MemPlace.row a (m * fs.size) ++ (List.range m).flatMap Pl) ∧
      ∀ i, i < m → ∃ (ys : List (DataW H × List MemPlace)) (n : Nat), D i = .agg (ys.map (·.1)) ∧ Pl i = ys.flatMap (·.2) ∧ ys.length = fs.size ∧
        ∀ (j : Nat) (f : Field), fs[j]? = some f → ∃ (v : Value) (y : DataW H × List MemPlace), w.cell? (a.add (i * fs.size + j)) = some v ∧ ys[j]? = some y ∧ DataW.trod enc P w base spare held n f.type [v] = some y := by
  rcases open_slice ht h with h0 | ⟨a, len, cap, m, n, D, Pl, hcs, hb, hl, hm, hmm, hx, hi⟩
  · exact .inl h0
  · refine .inr ⟨a, len, cap, m, D, Pl, hcs, hb, hl, hm, hmm, by rw [hC] at hx; exact hx, fun i him => ?_⟩
    obtain ⟨cs', hc, ht'⟩ := hi i him
    rw [hC] at hc
    obtain ⟨ys, n', hn', hy, hlen, hyl, hf⟩ := DataW.trod_struct he ht'
    obtain ⟨_, hcl, hat⟩ := World.cells?_some hc
    simp only [Prod.mk.injEq] at hy
    refine ⟨ys, n', hy.1, hy.2, hyl, fun j f hj => ?_⟩
    obtain ⟨ho, hk⟩ := hone_of hone j f hj
    have hjl : j < fs.size := (Array.getElem?_eq_some_iff.1 hj).1
    have hcell := hat j hjl
    have hv : cs'[j]? = some (cs'[j]'(by omega)) := List.getElem?_eq_getElem (by omega)
    have h1 := hf j f hj
    rw [ho, hk] at h1
    have hone' : (cs'.drop j).take 1 = [cs'[j]'(by omega)] := by
      rw [List.drop_eq_getElem_cons (by omega)]
      rfl
    rw [hone'] at h1
    have hys : ys[j]? = some (ys[j]'(by omega)) := List.getElem?_eq_getElem (by omega)
    refine ⟨_, _, ?_, hys, h1.trans hys⟩
    rw [← Go.Deep.add_add, hcell, hv]
end
def acells : List Ac.Ask → List Value
  | [] => []
  | a :: r => .int .i64 a.src :: .string (bs a.host) :: .int .i64 a.port :: .string (bs a.meth) :: .string (bs a.path) :: .int .i64 a.now :: acells r
theorem acells_length (l : List Ac.Ask) : (acells l).length = l.length * 6 := by
  induction l with
  | nil => rfl
  | cons f r ih => simp [acells, ih]; omega
theorem acells_get (l : List Ac.Ask) (k : Nat) (h : k < l.length) : (acells l)[k * 6]? = some (.int .i64 l[k].src) ∧ (acells l)[k * 6 + 1]? = some (.string (bs l[k].host)) ∧ (acells l)[k * 6 + 2]? = some (.int .i64 l[k].port) ∧ (acells l)[k * 6 + 3]? = some (.string (bs l[k].meth)) ∧ (acells l)[k * 6 + 4]? = some (.string (bs l[k].path)) ∧ (acells l)[k * 6 + 5]? = some (.int .i64 l[k].now) := by
  induction l generalizing k with
  | nil => simp at h
  | cons p r ih =>
    cases k with
    | zero => exact ⟨rfl, rfl, rfl, rfl, rfl, rfl⟩
    | succ k =>
      obtain ⟨h0, h1, h2, h3, h4, h5⟩ := ih k (by simpa using h)
      rw [show (k + 1) * 6 = k * 6 + 1 + 1 + 1 + 1 + 1 + 1 by omega]
      exact ⟨by simpa [acells] using h0, by simpa [acells] using h1, by simpa [acells] using h2, by simpa [acells] using h3, by simpa [acells] using h4, by simpa [acells] using h5⟩
def RdAsk (w : World) (A : Option Addr) (n : Nat) (l : List Ac.Ask) : Prop := l.length = n ∧ Rd w 6 A n (acells l)
theorem RdAsk.step {w w' : World} {A : Option Addr} {n : Nat} {l : List Ac.Ask} (h : RdAsk w A n l) (hb : Below w.heap.size w w') : RdAsk w' A n l := ⟨h.1, h.2.step hb⟩
theorem RdAsk.at_ {w : World} {A : Option Addr} {n : Nat} {l : List Ac.Ask} (h : RdAsk w A n l) {k : Nat} (hk : k < n) : ∃ g o a, A = some ⟨g, o, none⟩ ∧ g < w.heap.size ∧ Hid (l[k]? = some a) ∧ w.cell? ⟨g, o + k * 6, none⟩ = some (.int .i64 a.src) ∧ w.cell? ⟨g, o + k * 6 + 1, none⟩ = some (.string (bs a.host)) ∧ w.cell? ⟨g, o + k * 6 + 2, none⟩ = some (.int .i64 a.port) ∧ w.cell? ⟨g, o + k * 6 + 3, none⟩ = some (.string (bs a.meth)) ∧ w.cell? ⟨g, o + k * 6 + 4, none⟩ = some (.string (bs a.path)) ∧ w.cell? ⟨g, o + k * 6 + 5, none⟩ = some (.int .i64 a.now) := by
  obtain ⟨g, o, e, hg, hc⟩ := h.2.2 (by omega)
  have hk' : k < l.length := by rw [h.1]; exact hk
  obtain ⟨h0, h1, h2, h3, h4, h5⟩ := acells_get l k hk'
  exact ⟨g, o, l[k], e, hg, Lib.hid (List.getElem?_eq_getElem hk'), hc _ _ h0, by rw [Nat.add_assoc]; exact hc _ _ h1, by rw [Nat.add_assoc]; exact hc _ _ h2, by rw [Nat.add_assoc]; exact hc _ _ h3, by rw [Nat.add_assoc]; exact hc _ _ h4, by rw [Nat.add_assoc]; exact hc _ _ h5⟩
instance : Inhabited Ac.Ask := ⟨⟨0, [], 0, [], [], 0⟩⟩
theorem six_of {fs : Array Field} {a b c d e g : TypeId} (h : fs.toList.map (fun f => f.type) = [a, b, c, d, e, g]) : ∃ f0 f1 f2 f3 f4 f5, fs = #[f0, f1, f2, f3, f4, f5] ∧ f0.type = a ∧ f1.type = b ∧ f2.type = c ∧ f3.type = d ∧ f4.type = e ∧ f5.type = g := by
  obtain ⟨l⟩ := fs
  match l, h with
  | [f0, f1, f2, f3, f4, f5], h =>
    simp at h
    exact ⟨f0, f1, f2, f3, f4, f5, rfl, h.1, h.2.1, h.2.2.1, h.2.2.2.1, h.2.2.2.2.1, h.2.2.2.2.2⟩
theorem opAsks {H : Type} {enc : TypeId × Value → H} {W : World} {base : Nat} {v : Value} {d : DataW H} {ps : List MemPlace} {b : Nat} (hv : Value.okWide Tryz.prog W .any base 22 v)
    (h : DataW.Trod enc Tryz.prog W 0 (fun _ => true) true 22 v d ps) (hb : Rows.uptoBulk d ≤ b) :
    ∃ (A : Option Addr) (n c : Nat) (l : List Ac.Ask), v = .slice A n c ∧ RdAsk W A n l ∧ n ≤ b ∧ ∀ a ∈ l, a.host.length ≤ b ∧ a.meth.length ≤ b ∧ a.path.length ≤ b ∧ -9223372036854775808 ≤ a.now ∧ a.now ≤ 9223372036854775807 := by
  obtain ⟨a0, n0, c0, rfl⟩ := okWide_slice Tryz.underlying22 hv
  obtain ⟨fuel, hf⟩ := h
  have he := ask_desc
  obtain ⟨f0, f1, f2, f3, f4, f5, hfe, t0, t1, t2, t3, t4, t5⟩ := six_of (fs := Tryz.prog.fieldsOf 37) (by kernel_rfl : (Tryz.prog.fieldsOf 37).toList.map (fun f => f.type) = [3, 9, 3, 9, 9, 3])
  have hone : oneCellFields Tryz.prog (Tryz.prog.fieldsOf 37) = true := by kernel_rfl
  rw [hfe] at he hone
  rcases open_slice_fields Tryz.underlying22 he hone (by rw [ask_cells]; rfl) hf with ⟨hcs, _⟩ | ⟨a, len, cap, m, D, Pl, hcs, _, hl, hcm, hm, hx, hc⟩
  · simp [Value.cells] at hcs
    obtain ⟨rfl, rfl, rfl⟩ := hcs
    exact ⟨none, 0, 0, [], rfl, ⟨rfl, Rd.nil _ _ _⟩, by omega, by simp⟩
  · simp [Value.cells] at hcs
    obtain ⟨rfl, rfl, rfl⟩ := hcs
    simp at hm
    subst hm
    simp only [Prod.mk.injEq] at hx
    obtain ⟨rfl, rfl⟩ := hx
    have hS : ∀ i, i < n0 → ∃ q : Ac.Ask, W.cell? (a.add (i * 6)) = some (.int .i64 q.src) ∧ W.cell? (a.add (i * 6 + 1)) = some (.string (bs q.host)) ∧ W.cell? (a.add (i * 6 + 2)) = some (.int .i64 q.port) ∧ W.cell? (a.add (i * 6 + 3)) = some (.string (bs q.meth)) ∧ W.cell? (a.add (i * 6 + 4)) = some (.string (bs q.path)) ∧ W.cell? (a.add (i * 6 + 5)) = some (.int .i64 q.now) ∧ q.host.length + q.meth.length + q.path.length ≤ Rows.uptoBulk (D i) ∧ -9223372036854775808 ≤ q.now ∧ q.now ≤ 9223372036854775807 := by
      intro i hi
      obtain ⟨ys, n, hD, _, hyl, hg⟩ := hc i (by omega)
      obtain ⟨v0, y0, h0, k0, g0⟩ := hg 0 f0 rfl
      obtain ⟨v1, y1, h1, k1, g1⟩ := hg 1 f1 rfl
      obtain ⟨v2, y2, h2, k2, g2⟩ := hg 2 f2 rfl
      obtain ⟨v3, y3, h3, k3, g3⟩ := hg 3 f3 rfl
      obtain ⟨v4, y4, h4, k4, g4⟩ := hg 4 f4 rfl
      obtain ⟨v5, y5, h5, k5, g5⟩ := hg 5 f5 rfl
      rw [t0] at g0
      rw [t1] at g1
      rw [t2] at g2
      rw [t3] at g3
      rw [t4] at g4
      rw [t5] at g5
      obtain ⟨z0, z1, z2, z3, z4, z5, rfl⟩ := ys6 (by rw [hyl]; rfl : ys.length = 6)
      simp only [List.getElem?_cons_zero, List.getElem?_cons_succ, Option.some.injEq] at k0 k1 k2 k3 k4 k5
      subst k0 k1 k2 k3 k4 k5
      obtain ⟨y0a, y0b⟩ := z0
      obtain ⟨y1a, y1b⟩ := z1
      obtain ⟨y2a, y2b⟩ := z2
      obtain ⟨y3a, y3b⟩ := z3
      obtain ⟨y4a, y4b⟩ := z4
      obtain ⟨y5a, y5b⟩ := z5
      obtain ⟨i0, rfl, l0, u0, rfl⟩ := int_of_trod g0
      obtain ⟨i1, rfl, rfl⟩ := str_of_trod g1
      obtain ⟨i2, rfl, l2, u2, rfl⟩ := int_of_trod g2
      obtain ⟨i3, rfl, rfl⟩ := str_of_trod g3
      obtain ⟨i4, rfl, rfl⟩ := str_of_trod g4
      obtain ⟨i5, rfl, l5, u5, rfl⟩ := int_of_trod g5
      refine ⟨⟨i0, i1, i2, i3, i4, i5⟩, h0, h1, h2, h3, h4, h5, ?_, l5, u5⟩
      rw [hD]
      simp only [Rows.uptoBulk, Rows.uptoBulkAll, List.map_cons, List.map_nil]
      show i1.length + i3.length + i4.length ≤ _
      omega
    obtain ⟨q, hq⟩ := choose_lt hS
    have hlen : ((List.range n0).map q).length = n0 := by simp
    have hB := bulks.slice_elems ((List.range n0).map D) ((List.range (m - n0)).map fun j => D (n0 + j))
    have hL := bulks.slice_le ((List.range n0).map D) ((List.range (m - n0)).map fun j => D (n0 + j))
    refine ⟨some a, n0, m, (List.range n0).map q, rfl, ⟨hlen, by rw [acells_length, hlen], fun hn => ?_⟩, by simp at hL; omega, fun x hx => ?_⟩
    · have hsp := spot_of_cell (hq 0 hn).1
      obtain ⟨g, o, s⟩ := a
      have hs' : s = none := by simpa [Addr.add] using hsp
      subst hs'
      refine ⟨g, o, rfl, World.block_lt_of_cell? W ⟨g, o, none⟩ (by have := (hq 0 hn).1; simpa [Addr.add] using this), fun j u hu => ?_⟩
      have hj : j < n0 * 6 := by
        have := (List.getElem?_eq_some_iff.1 hu).1
        rw [acells_length, hlen] at this; omega
      obtain ⟨k, r, rfl, hr⟩ : ∃ k r, j = k * 6 + r ∧ r < 6 := ⟨j / 6, j % 6, by omega, by omega⟩
      have hk : k < ((List.range n0).map q).length := by rw [hlen]; omega
      have hk0 : k < n0 := by omega
      obtain ⟨e0, e1, e2, e3, e4, e5⟩ := acells_get _ k hk
      obtain ⟨g0, g1, g2, g3, g4, g5, -⟩ := hq k hk0
      rw [addr_add] at g0 g1 g2 g3 g4 g5
      have hqk : ((List.range n0).map q)[k] = q k := by simp
      rw [hqk] at e0 e1 e2 e3 e4 e5
      match r, hr with
      | 0, _ => rw [Nat.add_zero] at hu ⊢; rw [e0] at hu; rw [g0]; exact hu
      | 1, _ => rw [e1] at hu; rw [g1]; exact hu
      | 2, _ => rw [e2] at hu; rw [g2]; exact hu
      | 3, _ => rw [e3] at hu; rw [g3]; exact hu
      | 4, _ => rw [e4] at hu; rw [g4]; exact hu
      | 5, _ => rw [e5] at hu; rw [g5]; exact hu
    · obtain ⟨i, hi, rfl⟩ := List.mem_map.1 hx
      have hi' : i < n0 := by simpa using hi
      obtain ⟨-, -, -, -, -, -, h7, h8, h9⟩ := hq i hi'
      have h1 := bulks.part_le (List.mem_map.2 ⟨i, hi, rfl⟩ : D i ∈ (List.range n0).map D)
      exact ⟨by omega, by omega, by omega, h8, h9⟩
end Go.Proofs.YtgkphjbcaidcpaaGreatDoor
