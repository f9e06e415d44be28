/- Joined texts: (every seat) Regions in which rows are made and one box is filled, walked in one order. Plain theory over XDetA. The conditions stand in each line. -/
import Derived.Test.YtcaekfebnhedpaaGreatDoorM2
import Derived.Test.YtcaekfebnhedpaaGreatDoorM3
import Derived.Test.YtcaekfebnhedpaaGreatDoorM30
set_option linter.unusedVariables false
set_option linter.unusedSimpArgs false
namespace Go.Proofs.YtcaekfebnhedpaaGreatDoor
open Go.RowKit

/-- An operation that calls, with what it looks at and what has come up. -/
theorem callE {P : Program} {md : Region.Mode} {ops : Array Oper} {V : Nat → Value → Prop} {S : Array Bool → Act → World → Prop} {i : Nat} {o : Oper} {a : Act} {f : FuncId} {args : Array Value} (hw : Region.wanted o (yielded ops a.tmps) = true)
    (hr : ∀ w, (execOp a.eval o).run P w = .ok (.enter f args) w)
    (hc : ∀ a' L w, (∀ x ∈ o.op.operands, a'.eval x = a.eval x) → L.getD i true = false → (∀ e ∈ o.after, Region.binds md e = true → L.getD e.on false = true) → S L a' w → Calls P f args w fun e w'' => ∃ v, e = .returned v ∧ V i v ∧ S (L.setIfInBounds i true) (a'.put o.dst v) w'') : DA.YS P md ops V S i o a :=
  .inl ⟨hw, fun a' L w he hl hd h => by rw [hr w]; exact hc a' L w he hl hd h⟩
theorem slot_val {a' : Act} {p : Nat} {v : Value} (h : a'.eval (.tmp p) = v) (hv : v ≠ undef) : a'.tmps[p]? = some v := by
  have h' : (a'.tmps[p]?).getD undef = v := by simpa [Act.eval] using h
  cases e : a'.tmps[p]? with
  | none => rw [e] at h'; exact absurd h'.symm hv
  | some x => rw [e] at h'; exact congrArg some h'
/-- All but block g stands as it was. -/
structure Gb (g : Nat) (w0 W : World) : Prop where
  os : W.os = w0.os
  tape : W.tape = w0.tape
  output : W.output = w0.output
  size : w0.heap.size ≤ W.heap.size
  block : ∀ k, k < w0.heap.size → k ≠ g → W.heap[k]? = w0.heap[k]?
theorem Gb.of_below {g : Nat} {w0 W : World} (h : Below w0.heap.size w0 W) : Gb g w0 W := ⟨h.os, h.tape, h.output, h.size, fun k hk _ => h.block k hk⟩
theorem Gb.trans {g : Nat} {a b c : World} (h : Gb g a b) (k : Gb g b c) : Gb g a c :=
  ⟨k.os.trans h.os, k.tape.trans h.tape, k.output.trans h.output, Nat.le_trans h.size k.size, fun i hi hn => (k.block i (Nat.lt_of_lt_of_le hi h.size) hn).trans (h.block i hi hn)⟩
theorem Gb.set {g o : Nat} {w : World} {u : Value} : Gb g w (w.setCell ⟨g, o, none⟩ u) :=
  ⟨rfl, rfl, rfl, by simp [World.setCell], fun k _ hn => DA.heap_rest hn o u⟩
/-- Below a bound that the box lies over, all stands. -/
theorem Gb.below {g B : Nat} {w0 W : World} (h : Gb g w0 W) (hB : B ≤ g) (hw : B ≤ w0.heap.size) : Below B w0 W :=
  ⟨h.os, h.tape, h.output, h.size, fun k hk => h.block k (Nat.lt_of_lt_of_le hk hw) (by omega)⟩
/-- A slot that is looked after: the operation that fills it, the slot, what holds of it. -/
structure Tr where
  i : Nat
  p : Nat
  R : World → Value → Prop
structure TrOK (g : Nat) (tr : List Tr) : Prop where
  step : ∀ t ∈ tr, ∀ W W' v, Below W.heap.size W W' → t.R W v → t.R W' v
  set : ∀ t ∈ tr, ∀ W u o v, t.R W v → t.R (W.setCell ⟨g, o, none⟩ u) v
/-- The invariant: box g holds z, and F of slot q's value once operation is has stored; the slots that are looked after hold what they shall. -/
structure SR (w0 : World) (g : Nat) (z : Array Value) (F : Value → Array Value) (T : TypeId) (iq st q N : Nat) (tr : List Tr) (L : Array Bool) (a : Act) (W : World) : Prop where
  grow : Gb g w0 W
  size : a.tmps.size = N
  box0 : L.getD st false = false → W.heap[g]? = some (.cells z T (0, 0))
  box1 : L.getD st false = true → ∃ v, a.tmps[q]? = some v ∧ W.heap[g]? = some (.cells (F v) T (0, 0))
  dep : L.getD st false = true → L.getD iq false = true
  row : ∀ t ∈ tr, L.getD t.i false = true → ∃ v, a.tmps[t.p]? = some v ∧ t.R W v
section
variable {w0 W W' : World} {g : Nat} {z : Array Value} {F : Value → Array Value} {T : TypeId} {iq st q N : Nat} {tr : List Tr} {L : Array Bool} {a : Act} {i : Nat} {dst : Option Tmp} {v : Value}
theorem SR.start {k : Nat} (h : a.tmps.size = N) (hg : w0.heap[g]? = some (.cells z T (0, 0))) : SR w0 g z F T iq st q N tr (Array.replicate k false) a w0.drew :=
  ⟨Gb.of_below (Below.refl _ _).drew, h, fun _ => hg, fun h => (by rw [DA.rep_getD] at h; cases h), fun h => (by rw [DA.rep_getD] at h; cases h), fun t _ h => (by rw [DA.rep_getD] at h; cases h)⟩
theorem heap_lt {w : World} {g : Nat} {o : Obj} (h : w.heap[g]? = some o) : g < w.heap.size := (Array.getElem?_eq_some_iff.1 h).1
theorem SR.other (ok : TrOK g tr) (hi : ∀ t ∈ tr, t.i ≠ i ∧ dst ≠ some t.p) (his : i ≠ st) (hq : dst = some q → i = iq) (hL : L.getD i true = false) (h : SR w0 g z F T iq st q N tr L a W) (hb : Below W.heap.size W W') :
    SR w0 g z F T iq st q N tr (L.setIfInBounds i true) (a.put dst v) W' := by
  have hst : (L.setIfInBounds i true).getD st false = L.getD st false := getD_set_ne false his
  refine ⟨h.grow.trans (Gb.of_below hb), DA.put_size.trans h.size, fun h0 => ?_, fun h1 => ?_, fun h1 => ?_, fun t ht h1 => ?_⟩
  · rw [hst] at h0
    have := h.box0 h0
    rw [hb.block g (heap_lt this)]; exact this
  · rw [hst] at h1
    obtain ⟨u, e1, e2⟩ := h.box1 h1
    refine ⟨u, ?_, by rw [hb.block g (heap_lt e2)]; exact e2⟩
    rw [DA.put_get]; exact e1
    intro hd
    have := h.dep h1
    rw [← hq hd, DA.getD_un hL] at this; cases this
  · rw [hst] at h1
    by_cases he : i = iq
    · subst he
      have := h.dep h1
      rw [DA.getD_un hL] at this; cases this
    · rw [getD_set_ne false he]; exact h.dep h1
  · obtain ⟨n1, n2⟩ := hi t ht
    rw [getD_set_ne false (Ne.symm n1)] at h1
    obtain ⟨u, e1, e2⟩ := h.row t ht h1
    exact ⟨u, (DA.put_get n2).trans e1, ok.step t ht W W' u hb e2⟩
theorem SR.made (t0 : Tr) (ok : TrOK g tr) (hi : ∀ t ∈ tr, t = t0 ∨ (t.i ≠ t0.i ∧ t.p ≠ t0.p)) (hp : t0.p < N) (his : t0.i ≠ st) (hq : t0.p = q → t0.i = iq) (hL : L.getD t0.i true = false) (h : SR w0 g z F T iq st q N tr L a W) (hb : Below W.heap.size W W') (hR : t0.R W' v) :
    SR w0 g z F T iq st q N tr (L.setIfInBounds t0.i true) (a.put (some t0.p) v) W' := by
  have hst : (L.setIfInBounds t0.i true).getD st false = L.getD st false := getD_set_ne false his
  refine ⟨h.grow.trans (Gb.of_below hb), DA.put_size.trans h.size, fun h0 => ?_, fun h1 => ?_, fun h1 => ?_, fun t ht h1 => ?_⟩
  · rw [hst] at h0
    have := h.box0 h0
    rw [hb.block g (heap_lt this)]; exact this
  · rw [hst] at h1
    obtain ⟨u, e1, e2⟩ := h.box1 h1
    refine ⟨u, ?_, by rw [hb.block g (heap_lt e2)]; exact e2⟩
    rw [DA.put_get]; exact e1
    intro hd
    have := h.dep h1
    injection hd with hd
    rw [← hq hd, DA.getD_un hL] at this; cases this
  · rw [hst] at h1
    by_cases he : t0.i = iq
    · have := h.dep h1
      rw [← he, DA.getD_un hL] at this; cases this
    · rw [getD_set_ne false he]; exact h.dep h1
  · rcases hi t ht with rfl | ⟨n1, n2⟩
    · exact ⟨v, DA.put_self (by rw [h.size]; exact hp), hR⟩
    · rw [getD_set_ne false (Ne.symm n1)] at h1
      obtain ⟨u, e1, e2⟩ := h.row t ht h1
      exact ⟨u, (DA.put_get (fun e => n2 (by injection e with e; exact e.symm))).trans e1, ok.step t ht W W' u hb e2⟩
/-- The store. -/
theorem SR.stored (hi : ∀ t ∈ tr, t.i ≠ st) (hne : st ≠ iq) (hL : L.getD st true = false) (hiq : L.getD iq false = true) (h : SR w0 g z F T iq st q N tr L a W) {u : Value} (hu : a.tmps[q]? = some u) (hg : Gb g W W')
    (hbox : W'.heap[g]? = some (.cells (F u) T (0, 0))) (hkeep : ∀ t ∈ tr, ∀ v, t.R W v → t.R W' v) :
    SR w0 g z F T iq st q N tr (L.setIfInBounds st true) (a.put none v) W' := by
  refine ⟨h.grow.trans hg, h.size, fun h0 => ?_, fun _ => ⟨u, hu, hbox⟩, fun _ => ?_, fun t ht h1 => ?_⟩
  · rw [DA.getD_set_self hL] at h0; cases h0
  · rw [getD_set_ne false hne]; exact hiq
  · rw [getD_set_ne false (Ne.symm (hi t ht))] at h1
    obtain ⟨x, e1, e2⟩ := h.row t ht h1
    exact ⟨x, e1, hkeep t ht x e2⟩
theorem TrOK.set4 {g : Nat} {tr : List Tr} (ok : TrOK g tr) {W : World} {u0 u1 u2 u3 : Value} : ∀ t ∈ tr, ∀ v, t.R W v → t.R ((((W.setCell ⟨g, 0, none⟩ u0).setCell ⟨g, 1, none⟩ u1).setCell ⟨g, 2, none⟩ u2).setCell ⟨g, 3, none⟩ u3) v :=
  fun t ht v h => ok.set t ht _ _ _ _ (ok.set t ht _ _ _ _ (ok.set t ht _ _ _ _ (ok.set t ht _ _ _ _ h)))
theorem Gb.set4 {g : Nat} {W : World} {u0 u1 u2 u3 : Value} : Gb g W ((((W.setCell ⟨g, 0, none⟩ u0).setCell ⟨g, 1, none⟩ u1).setCell ⟨g, 2, none⟩ u2).setCell ⟨g, 3, none⟩ u3) :=
  ((Gb.set.trans Gb.set).trans Gb.set).trans Gb.set
theorem heap_set4 {w : World} {g : Nat} {v0 v1 v2 v3 u0 u1 u2 u3 : Value} {T : TypeId} (h : w.heap[g]? = some (.cells #[v0, v1, v2, v3] T (0, 0))) :
    ((((w.setCell ⟨g, 0, none⟩ u0).setCell ⟨g, 1, none⟩ u1).setCell ⟨g, 2, none⟩ u2).setCell ⟨g, 3, none⟩ u3).heap[g]? = some (.cells #[u0, u1, u2, u3] T (0, 0)) :=
  DA.heap_set (DA.heap_set (DA.heap_set (DA.heap_set h 0 u0) 1 u1) 2 u2) 3 u3
end
/-- An operation that only reads, and whose value is looked after. -/
theorem pureE {P : Program} {md : Region.Mode} {ops : Array Oper} {V : Nat → Value → Prop} {S : Array Bool → Act → World → Prop} {i : Nat} {o : Oper} {a : Act} {v : Value} (hw : Region.wanted o (yielded ops a.tmps) = true)
    (hr : ∀ w, (execOp a.eval o).run P w = .ok (.value v) w)
    (hS : ∀ a' L w, (∀ x ∈ o.op.operands, a'.eval x = a.eval x) → L.getD i true = false → (∀ e ∈ o.after, Region.binds md e = true → L.getD e.on false = true) → S L a' w → V i v ∧ S (L.setIfInBounds i true) (a'.put o.dst v) w) : DA.YS P md ops V S i o a :=
  .inl ⟨hw, fun a' L w he hl hd h => by rw [hr w]; exact hS a' L w he hl hd h⟩
theorem TrOK.nil {g : Nat} : TrOK g [] := ⟨fun _ h => by (cases h), fun _ h => by (cases h)⟩
theorem TrOK.cons {g : Nat} {t : Tr} {tr : List Tr} (h1 : ∀ W W' v, Below W.heap.size W W' → t.R W v → t.R W' v) (h2 : ∀ W u o v, t.R W v → t.R (W.setCell ⟨g, o, none⟩ u) v) (h : TrOK g tr) : TrOK g (t :: tr) :=
  ⟨fun x hx => by rcases List.mem_cons.1 hx with rfl | hx; exact h1; exact h.step x hx, fun x hx => by rcases List.mem_cons.1 hx with rfl | hx; exact h2; exact h.set x hx⟩
/-- A slice of bytes, of fields, of texts of the call's own. -/
def tB (i p Bs : Nat) (b : List UInt8) : Tr := ⟨i, p, fun W v => ∃ A n c, v = .slice A n c ∧ OwnB W Bs (.slice A n c) b⟩
def tF (i p Bs : Nat) (l : List Fld) : Tr := ⟨i, p, fun W v => ∃ A n c, v = .slice A n c ∧ OwnF W Bs (.slice A n c) l⟩
def tS (i p Bs : Nat) (l : List (List UInt8)) : Tr := ⟨i, p, fun W v => ∃ A n c, v = .slice A n c ∧ OwnS W Bs (.slice A n c) l⟩
section
variable {i p Bs g : Nat} {tr : List Tr}
@[simp] theorem tB_i {b : List UInt8} : (tB i p Bs b).i = i := rfl
@[simp] theorem tB_p {b : List UInt8} : (tB i p Bs b).p = p := rfl
@[simp] theorem tF_i {b : List Fld} : (tF i p Bs b).i = i := rfl
@[simp] theorem tF_p {b : List Fld} : (tF i p Bs b).p = p := rfl
@[simp] theorem tS_i {b : List (List UInt8)} : (tS i p Bs b).i = i := rfl
@[simp] theorem tS_p {b : List (List UInt8)} : (tS i p Bs b).p = p := rfl
theorem own_setG {w : World} {base : Nat} {e : TypeId} {size n : Nat} {v : Value} {xs : List Value} (h : w.ownsRow base e size v n xs) {g o : Nat} (hg : g < base) (u : Value) : (w.setCell ⟨g, o, none⟩ u).ownsRow base e size v n xs :=
  h.kept (row := some g) ⟨rfl, rfl, rfl, by simp [World.setCell], fun i _ hne => DA.heap_rest (fun he => hne (by rw [he])) o u⟩ (by
    cases hv : v.ownBlock with
    | none => simp
    | some k =>
      have := (h.lt k hv).1
      simp; omega)
theorem own_gb {w W : World} {base : Nat} {e : TypeId} {size n : Nat} {v : Value} {xs : List Value} (h : w.ownsRow base e size v n xs) {g : Nat} (hg : g < base) (hG : Gb g w W) : W.ownsRow base e size v n xs :=
  h.kept (row := some g) ⟨hG.os, hG.tape, hG.output, hG.size, fun i hi hne => hG.block i hi (fun he => hne (by rw [he]))⟩ (by
    cases hv : v.ownBlock with
    | none => simp
    | some k =>
      have := (h.lt k hv).1
      simp; omega)
theorem tB_ok {b : List UInt8} (hg : g < Bs) (h : TrOK g tr) : TrOK g (tB i p Bs b :: tr) :=
  h.cons (fun W W' v hb ⟨A, n, c, e, ho⟩ => ⟨A, n, c, e, ho.step hb⟩) (fun W u o v ⟨A, n, c, e, ho⟩ => ⟨A, n, c, e, own_setG ho hg u⟩)
theorem tF_ok {b : List Fld} (hg : g < Bs) (h : TrOK g tr) : TrOK g (tF i p Bs b :: tr) :=
  h.cons (fun W W' v hb ⟨A, n, c, e, ho⟩ => ⟨A, n, c, e, ho.step hb⟩) (fun W u o v ⟨A, n, c, e, ho⟩ => ⟨A, n, c, e, own_setG ho hg u⟩)
theorem tS_ok {b : List (List UInt8)} (hg : g < Bs) (h : TrOK g tr) : TrOK g (tS i p Bs b :: tr) :=
  h.cons (fun W W' v hb ⟨A, n, c, e, ho⟩ => ⟨A, n, c, e, ho.step hb⟩) (fun W u o v ⟨A, n, c, e, ho⟩ => ⟨A, n, c, e, own_setG ho hg u⟩)
/-- What an operation sees of a slot that is looked after. -/
theorem SR.see {w0 W : World} {z : Array Value} {F : Value → Array Value} {T : TypeId} {iq st q N : Nat} {L : Array Bool} {a a' : Act} {t : Tr} (h : SR w0 g z F T iq st q N tr L a' W) (ht : t ∈ tr) (hL : L.getD t.i false = true)
    (he : a'.eval (.tmp t.p) = a.eval (.tmp t.p)) (hv : a.eval (.tmp t.p) ≠ undef) : t.R W (a.eval (.tmp t.p)) := by
  obtain ⟨v, e1, e2⟩ := h.row t ht hL
  have := slot_val he hv
  rw [e1] at this
  rw [← Option.some.inj this]; exact e2
end
end Go.Proofs.YtcaekfebnhedpaaGreatDoor
