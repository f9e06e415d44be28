/- The map of a Cache-Control's first directives, in memory. The conditions stand in each line. -/
import Derived.Test.YtfhkgbimnfjfhaaDoorCtl
import Derived.Test.YtfhkgbimnfjfhaaDoorIs
import Derived.Test.YtfhkgbimnfjfhaaDoorSep
import Derived.Maps.Own
import Derived.Maps.OwnSet
import Derived.Maps.Views
import Derived.Lib.Builder
set_option linter.unusedVariables false
set_option linter.unusedSimpArgs false
namespace Go.Proofs.YtfhkgbimnfjfhaaDoor
open Go.RowKit

namespace Ctl
/-- A name's argument, and whether it has one; nothing where the name is not there. -/
def argAt (D : List Dir) (s : List UInt8) : List UInt8 × Bool := match firstD D s with
  | none => ([], false)
  | some d => (d.2.1, d.2.2)
theorem firstD_old {D : List Dir} {d : Dir} (h : hasD D d.1 = true) (n : List UInt8) : firstD (D ++ [d]) n = firstD D n := by
  rw [firstD_app]
  by_cases hn : n = d.1
  · subst hn
    unfold hasD at h
    cases hf : firstD D d.1 with
    | none => rw [hf] at h; simp at h
    | some x => rfl
  · have : firstD [d] n = none := by
      unfold firstD
      rw [List.find?_cons, show (d.1 == n) = false from by rw [beq_eq_false_iff_ne]; exact fun e => hn e.symm]; rfl
    rw [this]; cases firstD D n <;> rfl
theorem firstD_new {D : List Dir} {d : Dir} (h : hasD D d.1 = false) (n : List UInt8) : firstD (D ++ [d]) n = if n = d.1 then some d else firstD D n := by
  rw [firstD_app]
  by_cases hn : n = d.1
  · subst hn
    rw [if_pos rfl]
    unfold hasD at h
    have h0 : firstD D d.1 = none := by cases hf : firstD D d.1 with
      | none => rfl
      | some x => rw [hf] at h; simp at h
    rw [h0]
    unfold firstD
    simp
  · rw [if_neg hn]
    have : firstD [d] n = none := by
      unfold firstD
      rw [List.find?_cons, show (d.1 == n) = false from by rw [beq_eq_false_iff_ne]; exact fun e => hn e.symm]; rfl
    rw [this]; cases firstD D n <;> rfl
end Ctl
def argD (t : List UInt8) (b : Bool) : DataW Unit := .agg [.lit (.string t), .lit (.bool b)]
def argV (t : List UInt8) (b : Bool) : Value := .agg #[.string (bs t), .bool b]
/-- How an argument reads. -/
def argR (v : Value) : Option (DataW Unit × List MemPlace) := match v with
  | .agg vs => match vs.toList with
    | [.string s, .bool b] => some (argD s.data.toList b, [])
    | _ => none
  | _ => none
theorem argR_of (t : List UInt8) (b : Bool) : argR (argV t b) = some (argD t b, []) := rfl
theorem argR_inv {v : Value} {t : List UInt8} {b : Bool} {z : List MemPlace} (h : argR v = some (argD t b, z)) : v = argV t b := by
  unfold argR at h
  split at h
  · rename_i vs
    split at h
    · rename_i s c hl
      simp only [argD, Option.some.injEq, Prod.mk.injEq, DataW.agg.injEq, List.cons.injEq, DataW.lit.injEq, Lit.string.injEq, Lit.bool.injEq] at h
      obtain ⟨⟨h1, h2, -⟩, -⟩ := h
      obtain rfl : vs = #[.string s, .bool c] := by cases vs; simp at hl; rw [hl]
      subst h2
      unfold argV
      rw [← h1]; rfl
    · simp at h
  · simp at h
theorem tabLaw : Maps.Keyed Tryd.prog 9 := Maps.string_keyed Tryd.underlying9
theorem tabKey {s : List UInt8} (h : s.length ≤ maxLen) : keyOf Tryd.prog 9 (.string (bs s)) = some (.string s) := WideMaps.keyOf_string_mk Tryd.underlying9 (s := bs s) (by simpa using h)
def AtL (M : DataW Unit) (D : List Ctl.Dir) : Prop := Maps.IsMap M ∧ ∀ s : List UInt8, Maps.has M (.string s) = Ctl.hasD D s ∧ M.atKey (.string s) (argD [] false) = argD (Ctl.argAt D s).1 (Ctl.argAt D s).2
theorem AtL.nil : AtL (.map []) [] := ⟨⟨[], rfl⟩, fun s => ⟨rfl, rfl⟩⟩
theorem AtL.old {M : DataW Unit} {D : List Ctl.Dir} {d : Ctl.Dir} (h : AtL M D) (hd : Ctl.hasD D d.1 = true) : AtL M (D ++ [d]) := ⟨h.1, fun s => by
  have := h.2 s
  unfold Ctl.hasD Ctl.argAt at *
  rw [Ctl.firstD_old hd]; exact this⟩
theorem AtL.new {M : DataW Unit} {D : List Ctl.Dir} {d : Ctl.Dir} (h : AtL M D) (hd : Ctl.hasD D d.1 = false) : AtL (M.put (.string d.1) (argD d.2.1 d.2.2)) (D ++ [d]) := ⟨h.1.put _ _, fun s => by
  have h0 := h.2 s
  unfold Ctl.hasD Ctl.argAt at *
  rw [Ctl.firstD_new hd]
  by_cases hs : s = d.1
  · subst hs
    rw [if_pos rfl, Maps.has_put_same h.1 (by simp [WideAt.IsKeyLit]), Maps.atKey_put_same h.1 (by simp [WideAt.IsKeyLit])]
    exact ⟨rfl, rfl⟩
  · rw [if_neg hs, Maps.has_put_other (by simpa using hs), Maps.atKey_put_other (by simpa using hs)]
    exact h0⟩
theorem AtL.eq {M : DataW Unit} {D E : List Ctl.Dir} (h : AtL M D) (e : D = E) : AtL M E := e ▸ h
/-- Block mb is a map of at most n arguments: the first directives of D. -/
def TabW (w : World) (B mb n : Nat) (D : List Ctl.Dir) : Prop := B ≤ mb ∧ ∃ M, w.ownsMap Tryd.prog 9 argR mb n M ∧ AtL M D
theorem TabW.step {w w' : World} {B mb n : Nat} {D : List Ctl.Dir} (h : TabW w B mb n D) (hb : Below w.heap.size w w') : TabW w' B mb n D := by
  obtain ⟨h0, M, h1, h2⟩ := h
  exact ⟨h0, M, h1.kept (row := none) ⟨hb.os, hb.tape, hb.output, hb.size, fun k hk _ => hb.block k hk⟩ (by simp), h2⟩
theorem TabW.mono {w : World} {B mb n n' : Nat} {D : List Ctl.Dir} (h : TabW w B mb n D) (hn : n ≤ n') : TabW w B mb n' D := by
  obtain ⟨h0, M, h1, h2⟩ := h
  exact ⟨h0, M, h1.mono hn, h2⟩
theorem zeroArg (w : World) : (zeroValue 72).run Tryd.prog w = .ok (argV [] false) w := by kernel_rfl
theorem TabW.look {w : World} {B mb n : Nat} {D : List Ctl.Dir} (h : TabW w B mb n D) {s : List UInt8} (hs : s.length ≤ maxLen) :
    (Instr.lookup 46 (.map (some mb)) (.string (bs s)) true).run Tryd.prog w = .ok (.tuple #[argV (Ctl.argAt D s).1 (Ctl.argAt D s).2, .bool (Ctl.hasD D s)]) w := by
  obtain ⟨-, M, hm, -, hat⟩ := h
  obtain ⟨v, ps, hrun, hv⟩ := hm.look_ok tabLaw Tryd.underlying46 (zeroArg w) (argR_of [] false) (tabKey hs)
  rw [hrun, (hat s).1]
  rw [(hat s).2] at hv
  rw [argR_inv hv]
theorem mapTurned_below {w w' : World} {mb B : Nat} (h : w.mapTurned w' mb) (hB : B ≤ mb) (hw : B ≤ w.heap.size) : Below B w w' :=
  (Below.refl B w).grown h.grown hw fun k hk => by injection hk with hk; omega
theorem mapTurned_rdS {w w' : World} {mb n : Nat} {A : Option Addr} {l : List (List UInt8)} (h : w.mapTurned w' mb) (hl : RdS w A n l) : RdS w' A n l := by
  by_cases h0 : n = 0
  · subst h0
    obtain rfl : l = [] := List.eq_nil_of_length_eq_zero hl.1
    exact RdS.nil _ _
  · refine ⟨hl.1, hl.2.same h.grown.size fun g o e => ?_⟩
    obtain ⟨g', o', e', hg, hc⟩ := hl.2.2 (by omega)
    rw [e] at e'
    obtain ⟨rfl, rfl⟩ : g = g' ∧ o = o' := by simpa using e'
    have hcell := hc 0 _ (strs_get l 0 (by rw [hl.1]; omega))
    refine h.grown.block g hg fun e2 => ?_
    obtain ⟨es, clock, es', clock', hb, -⟩ := h
    injection e2 with e2
    subst e2
    simp [World.cell?, hb] at hcell
end Go.Proofs.YtfhkgbimnfjfhaaDoor
