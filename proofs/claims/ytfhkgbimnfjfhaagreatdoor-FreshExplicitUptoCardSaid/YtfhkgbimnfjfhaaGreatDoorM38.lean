/- Joined texts: Entries, policies, controls and rows of bytes as arguments: from the form's reading to lists of bytes and numbers; Regions in which an entry is copied and the copy is handed on, in one order. The conditions stand in each line. -/
import Derived.Test.YtfhkgbimnfjfhaaGreatDoorM24
import Derived.Test.YtfhkgbimnfjfhaaGreatDoorM28
import Derived.Test.YtfhkgbimnfjfhaaGreatDoorM37
set_option linter.unusedVariables false
set_option linter.unusedSimpArgs false
namespace Go.Proofs.YtfhkgbimnfjfhaaGreatDoor
open Go.RowKit

set_option maxRecDepth 100000
open Go.ChangeShapes Go.WideShapes Go.ChangeAt Go.RowKit Go.Deep Go.Joins
/-- A struct by value, opened: each field's cells with their reading. -/
theorem open_aggN {H : Type} {enc : TypeId × Value → H} {P : Program} {W : World} {base b0 : Nat} {sp : Nat → Bool} {held : Bool} {r : Reach} {t : TypeId} {fs : Array Field} {v : Value} {d : DataW H} {p : List MemPlace} (hs : P.underlying t = some (.struct fs))
    (hv : Value.okWide P W r b0 t v) (h : DataW.Trod enc P W base sp held t v d p) :
    ∃ (vs : Array Value) (ys : List (DataW H × List MemPlace)) (n : Nat), v = .agg vs ∧ vs.size = P.cellsOf t ∧ d = .agg (ys.map (·.1)) ∧ ys.length = fs.size ∧
      ∀ (i : Nat) (f : Field), fs[i]? = some f → ∃ y, ys[i]? = some y ∧ DataW.trod enc P W base sp held n f.type ((vs.toList.drop f.offset).take (P.cellsOf f.type)) = some y := by
  obtain ⟨cs, rfl, hsz⟩ := okWide_struct hs hv
  obtain ⟨fuel, hf⟩ := h
  obtain ⟨xs, n, _, hx, _, hlen, hall⟩ := DataW.trod_struct hs hf
  simp only [Prod.mk.injEq] at hx
  refine ⟨cs, xs, n, rfl, hsz, hx.1, hlen, fun i f hi => ?_⟩
  have hlt : i < xs.length := by rw [hlen]; exact (Array.getElem?_eq_some_iff.1 hi).1
  refine ⟨xs[i], List.getElem?_eq_getElem hlt, ?_⟩
  rw [← List.getElem?_eq_getElem hlt]
  simpa [Value.cells] using hall i f hi
theorem fields_of {fs : Array Field} {k : List (TypeId × Nat)} (h : fs.toList.map (fun f => (f.type, f.offset)) = k) {i : Nat} {t : TypeId} {o : Nat} (hk : k[i]? = some (t, o)) : ∃ f, fs[i]? = some f ∧ f.type = t ∧ f.offset = o := by
  subst h
  rw [List.getElem?_map] at hk
  cases hf : fs.toList[i]? with
  | none => rw [hf] at hk; cases hk
  | some f =>
    rw [hf] at hk
    simp at hk
    exact ⟨f, by simpa using hf, hk.1, hk.2⟩
theorem bool_of_trod {H : Type} {enc : TypeId × Value → H} {W : World} {base : Nat} {sp : Nat → Bool} {n : Nat} {v : Value} {y : DataW H × List MemPlace}
    (h : DataW.trod enc Tryz.prog W base sp true n 4 [v] = some y) : ∃ b : Bool, v = .bool b := by
  obtain ⟨b, e1, _⟩ := DataW.trod_bool Tryz.underlying4 h
  simp at e1
  exact ⟨b, e1⟩
theorem array10 {α : Type} {cs : Array α} (h : cs.size = 10) : ∃ c0 c1 c2 c3 c4 c5 c6 c7 c8 c9, cs = #[c0, c1, c2, c3, c4, c5, c6, c7, c8, c9] := by
  obtain ⟨l⟩ := cs
  match l, h with
  | [c0, c1, c2, c3, c4, c5, c6, c7, c8, c9], _ => exact ⟨c0, c1, c2, c3, c4, c5, c6, c7, c8, c9, rfl⟩
theorem array9 {α : Type} {cs : Array α} (h : cs.size = 9) : ∃ c0 c1 c2 c3 c4 c5 c6 c7 c8, cs = #[c0, c1, c2, c3, c4, c5, c6, c7, c8] := by
  obtain ⟨l⟩ := cs
  match l, h with
  | [c0, c1, c2, c3, c4, c5, c6, c7, c8], _ => exact ⟨c0, c1, c2, c3, c4, c5, c6, c7, c8, rfl⟩
theorem ys6 {α : Type} {l : List α} (h : l.length = 6) : ∃ a b c d e f, l = [a, b, c, d, e, f] := by
  match l, h with
  | [a, b, c, d, e, f], _ => exact ⟨a, b, c, d, e, f, rfl⟩
theorem oeU8_cells : Tryz.prog.cellsOf 5 = 1 := by kernel_rfl
/-- Bytes as a cell. -/
theorem opBytes {H : Type} {enc : TypeId × Value → H} {W : World} {fuel : Nat} {v : Value} {d : DataW H} {ps : List MemPlace} {b : Nat}
    (hf : DataW.trod enc Tryz.prog W 0 (fun _ => true) true fuel 25 [v] = some (d, ps)) (hb : Rows.uptoBulk d ≤ b) :
    ∃ (A : Option Addr) (n c : Nat) (l : List UInt8), v = .slice A n c ∧ RdB W A n l ∧ n ≤ b ∧ n ≤ c ∧ c ≤ maxLen := by
  rcases open_ints Tryz.underlying25 Tryz.underlying5 oeU8_cells hf with ⟨hcs, hx⟩ | ⟨a, len, cap, zs, hcs, _, hl, hm, hz, hx, hcell, hwf⟩
  · simp at hcs
    subst hcs
    exact ⟨none, 0, 0, [], rfl, RdB.nil _ _, by omega, by omega, by unfold maxLen; omega⟩
  · simp at hcs
    subst hcs
    simp at hz
    simp only [Prod.mk.injEq] at hx
    obtain ⟨rfl, rfl⟩ := hx
    have hbd : ∀ z ∈ zs, 0 ≤ z ∧ z ≤ 255 := fun z hz => by
      have := hwf z hz
      simpa [Lit.wf, IntKind.min, IntKind.max, IntKind.signed, IntKind.bits] using this
    have hget : ∀ i, i < len → (zs.getD i 0).toNat.toUInt8.toNat = (zs.getD i 0) := fun i hi => by
      have hi' : i < zs.length := by omega
      have := hbd _ (List.getElem_mem hi')
      rw [List.getD_eq_getElem?_getD, List.getElem?_eq_getElem hi']
      simp only [Option.getD_some]
      rw [UInt8.toNat_ofNat']
      omega
    refine ⟨some a, len, cap, (List.range len).map fun i => (zs.getD i 0).toNat.toUInt8, rfl, ⟨by simp, by simp, fun hn => ?_⟩, ?_, hl, hm⟩
    · have hsp := spot_of_cell (hcell 0 (by omega))
      obtain ⟨g, o, s⟩ := a
      have hs : s = none := by simpa [Addr.add] using hsp
      subst hs
      refine ⟨g, o, rfl, World.block_lt_of_cell? W ⟨g, o, none⟩ (by have := hcell 0 (by omega); simpa [Addr.add] using this), fun j u hu => ?_⟩
      have hj : j < len := by
        have := (List.getElem?_eq_some_iff.1 hu).1
        simpa using this
      rw [List.getElem?_map, List.getElem?_map, List.getElem?_range hj] at hu
      simp only [Option.map_some, Option.some.injEq] at hu
      subst hu
      have := hcell j (by omega)
      rw [addr_add] at this
      rw [this]
      unfold bytV
      rw [hget j hj]
    · have := bulks.slice_le (lits .u8 (zs.take len)) (H := H) (lits .u8 (zs.drop len))
      have hll : (lits (H := H) .u8 (zs.take len)).length = len := by simp [lits]; omega
      omega
theorem pol_desc : Tryz.prog.underlying 29 = some (.struct (Tryz.prog.fieldsOf 29)) := by kernel_rfl
theorem pol_shape : (Tryz.prog.fieldsOf 29).toList.map (fun f => f.type) = [3, 3, 3, 3] := by kernel_rfl
theorem pol_one : oneCellFields Tryz.prog (Tryz.prog.fieldsOf 29) = true := by kernel_rfl
theorem pol_cells : Tryz.prog.cellsOf 29 = 4 := by kernel_rfl
/-- A policy as an argument. -/
theorem opPol {H : Type} {enc : TypeId × Value → H} {W : World} {base : Nat} {v : Value} {d : DataW H} {ps : List MemPlace} (hv : Value.okWide Tryz.prog W .any base 29 v)
    (h : DataW.Trod enc Tryz.prog W 0 (fun _ => true) true 29 v d ps) : ∃ p : Frs.Pol, v = polV p ∧ p.ok := by
  obtain ⟨f0, f1, f2, f3, he, t0, t1, t2, t3⟩ := four_of pol_shape
  have hd := pol_desc
  have h1 := pol_one
  rw [he] at hd h1
  obtain ⟨v0, v1, v2, v3, y0, y1, y2, y3, n, rfl, rfl, rfl, g0, g1, g2, g3⟩ := open_agg4 hd h1 pol_cells hv h
  rw [t0] at g0
  rw [t1] at g1
  rw [t2] at g2
  rw [t3] at g3
  obtain ⟨y0a, y0b⟩ := y0
  obtain ⟨y1a, y1b⟩ := y1
  obtain ⟨y2a, y2b⟩ := y2
  obtain ⟨y3a, y3b⟩ := y3
  obtain ⟨i0, rfl, a0, b0, -⟩ := int_of_trod g0
  obtain ⟨i1, rfl, a1, b1, -⟩ := int_of_trod g1
  obtain ⟨i2, rfl, a2, b2, -⟩ := int_of_trod g2
  obtain ⟨i3, rfl, a3, b3, -⟩ := int_of_trod g3
  exact ⟨⟨i0, i1, i2, i3⟩, rfl, ⟨a0, b0⟩, ⟨a1, b1⟩, ⟨a2, b2⟩, a3, b3⟩
theorem oeCtl_desc : Tryz.prog.underlying 37 = some (.struct (Tryz.prog.fieldsOf 37)) := by kernel_rfl
theorem oeCtl_shape : (Tryz.prog.fieldsOf 37).toList.map (fun f => (f.type, f.offset)) = [(4, 0), (4, 1), (4, 2), (4, 3), (4, 4), (4, 5), (3, 6), (3, 7), (3, 8), (3, 9)] := by kernel_rfl
theorem oeCtl_cells : Tryz.prog.cellsOf 37 = 10 := by kernel_rfl
theorem oeBool_cells : Tryz.prog.cellsOf 4 = 1 := by kernel_rfl
theorem oeInt_cells : Tryz.prog.cellsOf 3 = 1 := by kernel_rfl
/-- A control as an argument. -/
theorem opCtl {H : Type} {enc : TypeId × Value → H} {W : World} {base : Nat} {v : Value} {d : DataW H} {ps : List MemPlace} (hv : Value.okWide Tryz.prog W .any base 37 v)
    (h : DataW.Trod enc Tryz.prog W 0 (fun _ => true) true 37 v d ps) : ∃ c : Ctl.Ct, v = ctV c ∧ Frs.ctOK c := by
  obtain ⟨vs, ys, n, rfl, hsz, -, -, hall⟩ := open_aggN oeCtl_desc hv h
  rw [oeCtl_cells] at hsz
  obtain ⟨c0, c1, c2, c3, c4, c5, c6, c7, c8, c9, rfl⟩ := array10 hsz
  have key : ∀ i t o, [((4 : TypeId), 0), (4, 1), (4, 2), (4, 3), (4, 4), (4, 5), (3, 6), (3, 7), (3, 8), (3, 9)][i]? = some (t, o) →
      ∃ y, DataW.trod enc Tryz.prog W 0 (fun _ => true) true n t (([c0, c1, c2, c3, c4, c5, c6, c7, c8, c9].drop o).take (Tryz.prog.cellsOf t)) = some y := fun i t o hi => by
    obtain ⟨f, hf, rfl, rfl⟩ := fields_of oeCtl_shape hi
    obtain ⟨y, -, hy⟩ := hall i f hf
    exact ⟨y, hy⟩
  obtain ⟨y0, g0⟩ := key 0 _ _ rfl
  obtain ⟨y1, g1⟩ := key 1 _ _ rfl
  obtain ⟨y2, g2⟩ := key 2 _ _ rfl
  obtain ⟨y3, g3⟩ := key 3 _ _ rfl
  obtain ⟨y4, g4⟩ := key 4 _ _ rfl
  obtain ⟨y5, g5⟩ := key 5 _ _ rfl
  obtain ⟨y6, g6⟩ := key 6 _ _ rfl
  obtain ⟨y7, g7⟩ := key 7 _ _ rfl
  obtain ⟨y8, g8⟩ := key 8 _ _ rfl
  obtain ⟨y9, g9⟩ := key 9 _ _ rfl
  rw [oeBool_cells] at g0 g1 g2 g3 g4 g5
  rw [oeInt_cells] at g6 g7 g8 g9
  obtain ⟨b0, rfl⟩ := bool_of_trod g0
  obtain ⟨b1, rfl⟩ := bool_of_trod g1
  obtain ⟨b2, rfl⟩ := bool_of_trod g2
  obtain ⟨b3, rfl⟩ := bool_of_trod g3
  obtain ⟨b4, rfl⟩ := bool_of_trod g4
  obtain ⟨b5, rfl⟩ := bool_of_trod g5
  obtain ⟨i6, rfl, l6, u6, -⟩ := int_of_trod (d := y6.1) (ps := y6.2) g6
  obtain ⟨i7, rfl, l7, u7, -⟩ := int_of_trod (d := y7.1) (ps := y7.2) g7
  obtain ⟨i8, rfl, l8, u8, -⟩ := int_of_trod (d := y8.1) (ps := y8.2) g8
  obtain ⟨i9, rfl, l9, u9, -⟩ := int_of_trod (d := y9.1) (ps := y9.2) g9
  exact ⟨⟨b0, b1, b2, b3, b4, b5, i6, i7, i8, i9⟩, rfl, ⟨l6, u6⟩, ⟨l7, u7⟩, ⟨l8, u8⟩, l9, u9⟩
theorem ent_desc : Tryz.prog.underlying 27 = some (.struct (Tryz.prog.fieldsOf 27)) := by kernel_rfl
theorem ent_shape : (Tryz.prog.fieldsOf 27).toList.map (fun f => (f.type, f.offset)) = [(9, 0), (9, 1), (24, 2), (25, 6), (3, 7), (3, 8)] := by kernel_rfl
theorem ent_cells : Tryz.prog.cellsOf 27 = 9 := by kernel_rfl
theorem oeStr_cells : Tryz.prog.cellsOf 9 = 1 := by kernel_rfl
theorem respT_cells : Tryz.prog.cellsOf 24 = 4 := by kernel_rfl
theorem bytT_cells : Tryz.prog.cellsOf 25 = 1 := by kernel_rfl
theorem fldT_cells : Tryz.prog.cellsOf 22 = 1 := by kernel_rfl
/-- An entry as an argument. -/
theorem opEnt {H : Type} {enc : TypeId × Value → H} {W : World} {base : Nat} {v : Value} {d : DataW H} {ps : List MemPlace} {b : Nat} (hv : Value.okWide Tryz.prog W .any base 27 v)
    (h : DataW.Trod enc Tryz.prog W 0 (fun _ => true) true 27 v d ps) (hb : Rows.uptoBulk d ≤ b) :
    ∃ (e : Frs.Ent) (A : Option Addr) (n c : Nat) (B : Option Addr) (m k : Nat), v = entV e A n c B m k ∧ e.ok b ∧ RdF W A n e.l ∧ RdB W B m e.b ∧ n + 3 ≤ b ∧ m ≤ b ∧ n ≤ c ∧ c ≤ maxLen ∧ m ≤ k ∧ k ≤ maxLen := by
  obtain ⟨vs, ys, n, rfl, hsz, rfl, hlen, hall⟩ := open_aggN ent_desc hv h
  rw [ent_cells] at hsz
  obtain ⟨c0, c1, c2, c3, c4, c5, c6, c7, c8, rfl⟩ := array9 hsz
  have hfs : (Tryz.prog.fieldsOf 27).size = 6 := by have := congrArg List.length ent_shape; simpa using this
  rw [hfs] at hlen
  obtain ⟨y0, y1, y2, y3, y4, y5, rfl⟩ := ys6 hlen
  have key : ∀ i t o, [((9 : TypeId), 0), (9, 1), (24, 2), (25, 6), (3, 7), (3, 8)][i]? = some (t, o) →
      ∃ y, [y0, y1, y2, y3, y4, y5][i]? = some y ∧ DataW.trod enc Tryz.prog W 0 (fun _ => true) true n t (([c0, c1, c2, c3, c4, c5, c6, c7, c8].drop o).take (Tryz.prog.cellsOf t)) = some y := fun i t o hi => by
    obtain ⟨f, hf, rfl, rfl⟩ := fields_of ent_shape hi
    obtain ⟨y, hy1, hy2⟩ := hall i f hf
    exact ⟨y, hy1, hy2⟩
  obtain ⟨z0, k0, g0⟩ := key 0 _ _ rfl
  obtain ⟨z1, k1, g1⟩ := key 1 _ _ rfl
  obtain ⟨z2, k2, g2⟩ := key 2 _ _ rfl
  obtain ⟨z3, k3, g3⟩ := key 3 _ _ rfl
  obtain ⟨z4, k4, g4⟩ := key 4 _ _ rfl
  obtain ⟨z5, k5, g5⟩ := key 5 _ _ rfl
  simp only [List.getElem?_cons_zero, List.getElem?_cons_succ, Option.some.injEq] at k0 k1 k2 k3 k4 k5
  subst k0 k1 k2 k3 k4 k5
  rw [oeStr_cells] at g0 g1
  rw [respT_cells] at g2
  rw [bytT_cells] at g3
  rw [oeInt_cells] at g4 g5
  obtain ⟨y0a, y0b⟩ := y0
  obtain ⟨y1a, y1b⟩ := y1
  obtain ⟨y2a, y2b⟩ := y2
  obtain ⟨y3a, y3b⟩ := y3
  obtain ⟨y4a, y4b⟩ := y4
  obtain ⟨y5a, y5b⟩ := y5
  obtain ⟨s0, rfl, rfl⟩ := str_of_trod g0
  obtain ⟨s1, rfl, rfl⟩ := str_of_trod g1
  obtain ⟨i4, rfl, l4, u4, rfl⟩ := int_of_trod g4
  obtain ⟨i5, rfl, l5, u5, rfl⟩ := int_of_trod g5
  obtain ⟨f0, f1, f2, f3, he, t0, t1, t2, t3⟩ := four_of resp_shape
  have hd := resp_desc
  have h1 := resp_one
  rw [he] at hd h1
  obtain ⟨x0, x1, x2, x3, nn, hx, -, r0, r1, r2, r3⟩ := trod_struct4 hd g2
  obtain ⟨o0, q0⟩ := hone_of h1 0 f0 rfl
  obtain ⟨o1, q1⟩ := hone_of h1 1 f1 rfl
  obtain ⟨o2, q2⟩ := hone_of h1 2 f2 rfl
  obtain ⟨o3, q3⟩ := hone_of h1 3 f3 rfl
  rw [q0, o0, t0] at r0
  rw [q1, o1, t1] at r1
  rw [q2, o2, t2] at r2
  rw [q3, o3, t3] at r3
  obtain ⟨x0a, x0b⟩ := x0
  obtain ⟨x1a, x1b⟩ := x1
  obtain ⟨x2a, x2b⟩ := x2
  obtain ⟨x3a, x3b⟩ := x3
  simp only [Prod.mk.injEq] at hx
  obtain ⟨rfl, -⟩ := hx
  obtain ⟨p0, rfl, lp0, up0, rfl⟩ := int_of_trod r0
  obtain ⟨p1, rfl, rfl⟩ := str_of_trod r1
  obtain ⟨p2, rfl, lp2, up2, rfl⟩ := int_of_trod r2
  simp only [Rows.uptoBulk, Rows.uptoBulkAll, List.map_cons, List.map_nil] at hb
  obtain ⟨A, na, ca, l, rfl, hr, hn, hf, hc1, hc2⟩ := opFc (b := b - 3) r3 (by omega)
  obtain ⟨B, nb, cb, lb, rfl, hrb, hnb, hcb1, hcb2⟩ := opBytes (b := b) g3 (by omega)
  exact ⟨⟨s0, s1, p0, p1, p2, l, lb, i4, i5⟩, A, na, ca, B, nb, cb, rfl, ⟨⟨show s0.length ≤ b by omega, show s1.length ≤ b by omega⟩, ⟨lp0, up0⟩, show p1.length ≤ b by omega, fun f hm => ⟨by have := (hf f hm).1; omega, by have := (hf f hm).2; omega⟩, ⟨l4, u4⟩, l5, u5⟩, hr, hrb, by omega, hnb, hc1, hc2, hcb1, hcb2⟩
end Go.Proofs.YtfhkgbimnfjfhaaGreatDoor
set_option linter.unusedVariables false
set_option linter.unusedSimpArgs false
namespace Go.Proofs.YtfhkgbimnfjfhaaGreatDoor
open Go.RowKit

set_option maxRecDepth 100000
/-- An operation that calls, with what it looks at and what has come up. -/
theorem callE {P : Program} {md : Region.Mode} {ops : Array Oper} {V : Nat → Value → Prop} {S : Array Bool → Act → World → Prop} {i : Nat} {o : Oper} {a : Act} {f : FuncId} {args : Array Value} (hw : Region.wanted o (yielded ops a.tmps) = true)
    (hr : ∀ w, (execOp a.eval o).run P w = .ok (.enter f args) w)
    (hc : ∀ a' L w, (∀ x ∈ o.op.operands, a'.eval x = a.eval x) → L.getD i true = false → (∀ e ∈ o.after, Region.binds md e = true → L.getD e.on false = true) → S L a' w → Calls P f args w fun e w'' => ∃ v, e = .returned v ∧ V i v ∧ S (L.setIfInBounds i true) (a'.put o.dst v) w'') : DA.YS P md ops V S i o a :=
  .inl ⟨hw, fun a' L w he hl hd h => by rw [hr w]; exact hc a' L w he hl hd h⟩
theorem slot_val {a' : Act} {p : Nat} {v : Value} (h : a'.eval (.tmp p) = v) (hv : v ≠ undef) : a'.tmps[p]? = some v := by
  have h' : (a'.tmps[p]?).getD undef = v := by simpa [Act.eval] using h
  cases e : a'.tmps[p]? with
  | none => rw [e] at h'; exact absurd h'.symm hv
  | some x => rw [e] at h'; exact congrArg some h'
/-- The copy of e that operation i0 makes stands in slot p. -/
def SE (w0 : World) (e : Frs.Ent) (i0 p N : Nat) (L : Array Bool) (a : Act) (W : World) : Prop :=
  Below w0.heap.size w0 W ∧ a.tmps.size = N ∧ (L.getD i0 false = true → ∃ A n c B m k, a.tmps[p]? = some (entV e A n c B m k) ∧ n ≤ 1048576 ∧ m ≤ 1048576 ∧ RdF W A n e.l ∧ RdB W B m e.b)
section
variable {w0 W W' : World} {e : Frs.Ent} {i0 p N : Nat} {L : Array Bool} {a : Act} {i : Nat} {dst : Option Tmp} {v : Value}
theorem SE.start (h : a.tmps.size = N) {k : Nat} : SE w0 e i0 p N (Array.replicate k false) a w0.drew :=
  ⟨(Below.refl _ _).drew, h, fun h => (by rw [DA.rep_getD] at h; cases h)⟩
theorem SE.other (hi : i ≠ i0) (hd : dst ≠ some p) (h : SE w0 e i0 p N L a W) (hb : Below W.heap.size W W') : SE w0 e i0 p N (L.setIfInBounds i true) (a.put dst v) W' := by
  obtain ⟨a1, a2, a3⟩ := h
  refine ⟨bnext a1 hb a1.size, DA.put_size.trans a2, fun hp => ?_⟩
  rw [getD_set_ne false hi] at hp
  obtain ⟨A, n, c, B, m, k, e1, e2, e3, e4, e5⟩ := a3 hp
  exact ⟨A, n, c, B, m, k, (DA.put_get hd).trans e1, e2, e3, e4.step hb, e5.step hb⟩
theorem SE.made {A : Option Addr} {n c : Nat} {B : Option Addr} {m k : Nat} (hp : p < N) (h : SE w0 e i0 p N L a W) (hb : Below W.heap.size W W') (hn : n ≤ 1048576) (hm : m ≤ 1048576) (hr : RdF W' A n e.l) (hB : RdB W' B m e.b) :
    SE w0 e i0 p N (L.setIfInBounds i0 true) (a.put (some p) (entV e A n c B m k)) W' := by
  obtain ⟨a1, a2, a3⟩ := h
  exact ⟨bnext a1 hb a1.size, DA.put_size.trans a2, fun _ => ⟨A, n, c, B, m, k, DA.put_self (by omega), hn, hm, hr, hB⟩⟩
/-- What a call sees of the copy. -/
theorem SE.see {a' : Act} {A : Option Addr} {n c : Nat} {B : Option Addr} {m k : Nat} (h : SE w0 e i0 p N L a' W) (hi : L.getD i0 false = true) (hv : a'.eval (.tmp p) = entV e A n c B m k) : n ≤ 1048576 ∧ m ≤ 1048576 ∧ RdF W A n e.l ∧ RdB W B m e.b := by
  have k1 := slot_val hv (by simp [undef, entV])
  obtain ⟨A', n', c', B', m', k', e1, e2, e3, e4, e5⟩ := h.2.2 hi
  rw [k1] at e1
  unfold entV at e1
  simp at e1
  obtain ⟨⟨rfl, rfl, rfl⟩, rfl, rfl, rfl⟩ := e1
  exact ⟨e2, e3, e4, e5⟩
end
end Go.Proofs.YtfhkgbimnfjfhaaGreatDoor
