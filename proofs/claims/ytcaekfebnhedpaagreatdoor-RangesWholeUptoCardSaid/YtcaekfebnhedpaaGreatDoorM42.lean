/- Joined texts: (every seat) Regions in which rows are made and one box is made and filled, walked in one order. Plain theory over XSr. The conditions stand in each line. -/
import Derived.Test.YtcaekfebnhedpaaGreatDoorM31
set_option linter.unusedVariables false
set_option linter.unusedSimpArgs false
namespace Go.Proofs.YtcaekfebnhedpaaGreatDoor
open Go.RowKit

theorem own_setT {w : World} {base : Nat} {e : TypeId} {size n : Nat} {v : Value} {xs : List Value} (h : w.ownsRow base e size v n xs) {g o : Nat} {C : Array Value} {T : TypeId} {fr : Nat × Nat} (hg : w.heap[g]? = some (.cells C T fr)) (hT : T ≠ e) (u : Value) : (w.setCell ⟨g, o, none⟩ u).ownsRow base e size v n xs :=
  h.kept (row := some g) ⟨rfl, rfl, rfl, by simp [World.setCell], fun i _ hne => DA.heap_rest (fun he => hne (by rw [he])) o u⟩ (by
    rcases h.2 with ⟨h1, _⟩ | ⟨g', cap, cur, h1, _, h3, _⟩
    · subst h1; exact .inl rfl
    · subst h1
      refine .inr fun he => ?_
      have : g' = g := by simpa [Value.ownBlock] using he
      subst this
      rw [hg] at h3
      injection h3 with h3
      injection h3 with _ h4
      exact hT h4)
theorem DA.runs_skip {P : Program} {V : Value → Prop} {S : Value → World → Prop} {r : Result Next} {w : World} (hr : r = .ok .skip w) (hV : V undef) (hS : S undef w) : DA.RunsTo P V S r := by subst hr; exact ⟨hV, hS⟩
structure TqOK (T : TypeId) (tr : List Tr) : Prop where
  step : ∀ t ∈ tr, ∀ W W' v, Below W.heap.size W W' → t.R W v → t.R W' v
  set : ∀ t ∈ tr, ∀ (W : World) (g : Nat) (C : Array Value) u o v, W.heap[g]? = some (.cells C T (0, 0)) → t.R W v → t.R (W.setCell ⟨g, o, none⟩ u) v
theorem TqOK.nil {T : TypeId} : TqOK T [] := ⟨fun _ h => by (cases h), fun _ h => by (cases h)⟩
theorem TqOK.cons {T : TypeId} {t : Tr} {tr : List Tr} (h1 : ∀ W W' v, Below W.heap.size W W' → t.R W v → t.R W' v) (h2 : ∀ (W : World) (g : Nat) (C : Array Value) u o v, W.heap[g]? = some (.cells C T (0, 0)) → t.R W v → t.R (W.setCell ⟨g, o, none⟩ u) v) (h : TqOK T tr) : TqOK T (t :: tr) :=
  ⟨fun x hx => by rcases List.mem_cons.1 hx with rfl | hx; exact h1; exact h.step x hx, fun x hx => by rcases List.mem_cons.1 hx with rfl | hx; exact h2; exact h.set x hx⟩
/-- The box: made by operation ia into slot p (z in it), filled by operation st with F of slot q, which operation iq fills. -/
structure Bq where
  ia : Nat
  p : Nat
  st : Nat
  iq : Nat
  q : Nat
  z : Array Value
  F : Value → Array Value
  T : TypeId
structure SQ (w0 : World) (N : Nat) (b : Bq) (tr : List Tr) (L : Array Bool) (a : Act) (W : World) : Prop where
  grow : Below w0.heap.size w0 W
  size : a.tmps.size = N
  box : L.getD b.ia false = true → ∃ g, a.tmps[b.p]? = some (.pointer (some ⟨g, 0, none⟩)) ∧ w0.heap.size ≤ g ∧ g < W.heap.size ∧ (L.getD b.st false = false → W.heap[g]? = some (.cells b.z b.T (0, 0))) ∧
    (L.getD b.st false = true → ∃ u, a.tmps[b.q]? = some u ∧ W.heap[g]? = some (.cells (b.F u) b.T (0, 0)))
  dep : L.getD b.st false = true → L.getD b.ia false = true ∧ L.getD b.iq false = true
  row : ∀ t ∈ tr, L.getD t.i false = true → ∃ v, a.tmps[t.p]? = some v ∧ t.R W v
section
variable {w0 W W' : World} {N : Nat} {b : Bq} {tr : List Tr} {L : Array Bool} {a : Act} {i : Nat} {dst : Option Tmp} {v : Value}
theorem SQ.start {k : Nat} (h : a.tmps.size = N) : SQ w0 N b tr (Array.replicate k false) a w0.drew :=
  ⟨(Below.refl _ _).drew, h, fun h => (by rw [DA.rep_getD] at h; cases h), fun h => (by rw [DA.rep_getD] at h; cases h), fun t _ h => (by rw [DA.rep_getD] at h; cases h)⟩
theorem SQ.box_other (hia : i ≠ b.ia) (his : i ≠ b.st) (hdp : dst ≠ some b.p) (hq : dst = some b.q → i = b.iq) (hL : L.getD i true = false) (h : SQ w0 N b tr L a W) (hb : Below W.heap.size W W')
    (h1 : (L.setIfInBounds i true).getD b.ia false = true) : ∃ g, (a.put dst v).tmps[b.p]? = some (.pointer (some ⟨g, 0, none⟩)) ∧ w0.heap.size ≤ g ∧ g < W'.heap.size ∧ ((L.setIfInBounds i true).getD b.st false = false → W'.heap[g]? = some (.cells b.z b.T (0, 0))) ∧
    ((L.setIfInBounds i true).getD b.st false = true → ∃ u, (a.put dst v).tmps[b.q]? = some u ∧ W'.heap[g]? = some (.cells (b.F u) b.T (0, 0))) := by
  rw [getD_set_ne false hia] at h1
  obtain ⟨g, e1, e2, e3, e4, e5⟩ := h.box h1
  refine ⟨g, (DA.put_get hdp).trans e1, e2, Nat.lt_of_lt_of_le e3 hb.size, fun h0 => ?_, fun h0 => ?_⟩
  · rw [getD_set_ne false his] at h0
    rw [hb.block g e3]; exact e4 h0
  · rw [getD_set_ne false his] at h0
    obtain ⟨u, f1, f2⟩ := e5 h0
    refine ⟨u, ?_, by rw [hb.block g e3]; exact f2⟩
    rw [DA.put_get]; exact f1
    intro hd
    have := (h.dep h0).2
    rw [← hq hd, DA.getD_un hL] at this; cases this
theorem SQ.dep_other (hia : i ≠ b.ia) (his : i ≠ b.st) (hL : L.getD i true = false) (h : SQ w0 N b tr L a W) (h1 : (L.setIfInBounds i true).getD b.st false = true) : (L.setIfInBounds i true).getD b.ia false = true ∧ (L.setIfInBounds i true).getD b.iq false = true := by
  rw [getD_set_ne false his] at h1
  obtain ⟨d1, d2⟩ := h.dep h1
  refine ⟨by rw [getD_set_ne false hia]; exact d1, ?_⟩
  by_cases he : i = b.iq
  · rw [← he, DA.getD_un hL] at d2; cases d2
  · rw [getD_set_ne false he]; exact d2
theorem SQ.other (ok : TqOK b.T tr) (hi : ∀ t ∈ tr, t.i ≠ i ∧ dst ≠ some t.p) (hia : i ≠ b.ia) (his : i ≠ b.st) (hdp : dst ≠ some b.p) (hq : dst = some b.q → i = b.iq) (hL : L.getD i true = false) (h : SQ w0 N b tr L a W) (hb : Below W.heap.size W W') :
    SQ w0 N b tr (L.setIfInBounds i true) (a.put dst v) W' := by
  refine ⟨bnext h.grow hb h.grow.size, DA.put_size.trans h.size, h.box_other hia his hdp hq hL hb, h.dep_other hia his hL, fun t ht h1 => ?_⟩
  obtain ⟨n1, n2⟩ := hi t ht
  rw [getD_set_ne false (Ne.symm n1)] at h1
  obtain ⟨u, e1, e2⟩ := h.row t ht h1
  exact ⟨u, (DA.put_get n2).trans e1, ok.step t ht W W' u hb e2⟩
theorem SQ.made (t0 : Tr) (ok : TqOK b.T tr) (hi : ∀ t ∈ tr, t = t0 ∨ (t.i ≠ t0.i ∧ t.p ≠ t0.p)) (hp : t0.p < N) (hia : t0.i ≠ b.ia) (his : t0.i ≠ b.st) (hdp : t0.p ≠ b.p) (hq : t0.p = b.q → t0.i = b.iq) (hL : L.getD t0.i true = false) (h : SQ w0 N b tr L a W) (hb : Below W.heap.size W W') (hR : t0.R W' v) :
    SQ w0 N b tr (L.setIfInBounds t0.i true) (a.put (some t0.p) v) W' := by
  refine ⟨bnext h.grow hb h.grow.size, DA.put_size.trans h.size, h.box_other hia his (by simpa using hdp) (fun e => hq (by injection e)) hL hb, h.dep_other hia his hL, fun t ht h1 => ?_⟩
  rcases hi t ht with rfl | ⟨n1, n2⟩
  · exact ⟨v, DA.put_self (by rw [h.size]; exact hp), hR⟩
  · rw [getD_set_ne false (Ne.symm n1)] at h1
    obtain ⟨u, e1, e2⟩ := h.row t ht h1
    exact ⟨u, (DA.put_get (fun e => n2 (by injection e with e; exact e.symm))).trans e1, ok.step t ht W W' u hb e2⟩
/-- The box is made. -/
theorem SQ.boxed (ok : TqOK b.T tr) (hi : ∀ t ∈ tr, t.i ≠ b.ia ∧ t.p ≠ b.p) (hp : b.p < N) (hne : b.ia ≠ b.st) (hnq : b.ia ≠ b.iq) (hL : L.getD b.ia true = false) (h : SQ w0 N b tr L a W) :
    SQ w0 N b tr (L.setIfInBounds b.ia true) (a.put (some b.p) (.pointer (some ⟨W.heap.size, 0, none⟩))) (W.alloc (.cells b.z b.T)) := by
  have hal := alloc_below W (.cells b.z b.T)
  have hs0 : L.getD b.st false = false := by
    cases e : L.getD b.st false with
    | false => rfl
    | true => have := (h.dep e).1; rw [DA.getD_un hL] at this; cases this
  refine ⟨bnext h.grow hal h.grow.size, DA.put_size.trans h.size, fun _ => ⟨W.heap.size, DA.put_self (by rw [h.size]; exact hp), h.grow.size, by simp, fun _ => heap_alloc_new W _, fun h1 => ?_⟩, fun h1 => ?_, fun t ht h1 => ?_⟩
  · rw [getD_set_ne false hne, hs0] at h1; cases h1
  · rw [getD_set_ne false hne, hs0] at h1; cases h1
  · obtain ⟨n1, n2⟩ := hi t ht
    rw [getD_set_ne false (Ne.symm n1)] at h1
    obtain ⟨u, e1, e2⟩ := h.row t ht h1
    exact ⟨u, (DA.put_get (fun e => n2 (by injection e with e; exact e.symm))).trans e1, ok.step t ht _ _ u hal e2⟩
/-- What a store sees of the box. -/
theorem SQ.seebox {a' : Act} {g : Nat} (h : SQ w0 N b tr L a' W) (hL : L.getD b.ia false = true) (hs : L.getD b.st false = false) (he : a'.eval (.tmp b.p) = .pointer (some ⟨g, 0, none⟩)) : w0.heap.size ≤ g ∧ g < W.heap.size ∧ W.heap[g]? = some (.cells b.z b.T (0, 0)) := by
  obtain ⟨g', e1, e2, e3, e4, -⟩ := h.box hL
  have := slot_val he (by simp [undef])
  rw [e1] at this
  simp at this
  subst this
  exact ⟨e2, e3, e4 hs⟩
theorem SQ.stored {g : Nat} {u0 u1 u2 u3 v0 v1 v2 v3 : Value} (ok : TqOK b.T tr) (hi : ∀ t ∈ tr, t.i ≠ b.st) (hne : b.st ≠ b.ia) (hnq : b.st ≠ b.iq) (hL : L.getD b.st true = false) (hia : L.getD b.ia false = true) (hiq : L.getD b.iq false = true) (h : SQ w0 N b tr L a W)
    (hz : b.z = #[v0, v1, v2, v3]) {u : Value} (hF : b.F u = #[u0, u1, u2, u3]) (hu : a.tmps[b.q]? = some u) (hg : a.tmps[b.p]? = some (.pointer (some ⟨g, 0, none⟩))) :
    SQ w0 N b tr (L.setIfInBounds b.st true) (a.put none v) ((((W.setCell ⟨g, 0, none⟩ u0).setCell ⟨g, 1, none⟩ u1).setCell ⟨g, 2, none⟩ u2).setCell ⟨g, 3, none⟩ u3) := by
  obtain ⟨g', e1, e2, e3, e4, -⟩ := h.box hia
  rw [hg] at e1
  simp at e1
  subst e1
  have hc := e4 (DA.getD_un hL)
  rw [hz] at hc
  have h4 := heap_set4 (u0 := u0) (u1 := u1) (u2 := u2) (u3 := u3) hc
  refine ⟨(Gb.set4 (g := g) (W := W)).below (B := w0.heap.size) e2 h.grow.size |> fun k => ⟨k.os.trans h.grow.os, k.tape.trans h.grow.tape, k.output.trans h.grow.output, Nat.le_trans h.grow.size k.size, fun i hi => (k.block i hi).trans (h.grow.block i hi)⟩, h.size, fun _ => ⟨g, hg, e2, by rw [DA.size_set, DA.size_set, DA.size_set, DA.size_set]; exact e3, fun h0 => ?_, fun _ => ⟨u, hu, by rw [hF]; exact h4⟩⟩, fun _ => ⟨?_, ?_⟩, fun t ht h1 => ?_⟩
  · rw [DA.getD_set_self hL] at h0; cases h0
  · rw [getD_set_ne false hne]; exact hia
  · rw [getD_set_ne false hnq]; exact hiq
  · rw [getD_set_ne false (Ne.symm (hi t ht))] at h1
    obtain ⟨x, f1, f2⟩ := h.row t ht h1
    refine ⟨x, f1, ?_⟩
    have s0 := ok.set t ht W g _ u0 0 x hc f2
    have c1 := DA.heap_set hc 0 u0
    have s1 := ok.set t ht _ g _ u1 1 x c1 s0
    have c2 := DA.heap_set c1 1 u1
    have s2 := ok.set t ht _ g _ u2 2 x c2 s1
    exact ok.set t ht _ g _ u3 3 x (DA.heap_set c2 2 u2) s2
end
theorem SQ.see {w0 W : World} {N : Nat} {b : Bq} {tr : List Tr} {L : Array Bool} {a a' : Act} {t : Tr} (h : SQ w0 N b tr L a' W) (ht : t ∈ tr) (hL : L.getD t.i false = true)
    (he : a'.eval (.tmp t.p) = a.eval (.tmp t.p)) (hv : a.eval (.tmp t.p) ≠ undef) : t.R W (a.eval (.tmp t.p)) := by
  obtain ⟨v, e1, e2⟩ := h.row t ht hL
  have := slot_val he hv
  rw [e1] at this
  rw [← Option.some.inj this]; exact e2
end Go.Proofs.YtcaekfebnhedpaaGreatDoor
