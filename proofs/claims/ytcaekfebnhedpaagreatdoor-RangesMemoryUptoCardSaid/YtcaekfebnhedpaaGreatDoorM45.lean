/- Joined texts: (every seat) Regions in which rows are made and one box is made and filled, walked in one order. Plain theory over XSr; FOR A PROOF OF AN '..UptoSaid': WHAT THE BOUND GIVES. Copy it as <Name>Bulk.lean (put your seat's Name for YtcaekfebnhedpaaGreatDoor, the bound of 'uptoSmall' for 1048576), name it in GOCLAIM.json's 'order' behind <Name>Rows. By an AI agent, Sun Nov 15 2026; Small lemmas for the last step of a row: what a call left is known below the old heap alone ('Below'). Lines of the guide's worked small lemmas turned to this claim; no conditions of ours; The laws' arguments opened: texts, fields. From the form's reading to 'bs', 'RdF'; no conditions but the bound of the second form. The conditions stand in each line. -/
import Derived.Test.YtcaekfebnhedpaaGreatDoorRows
import Derived.Test.YtcaekfebnhedpaaGreatDoorM2
import Derived.Test.YtcaekfebnhedpaaGreatDoorM3
import Derived.Test.YtcaekfebnhedpaaGreatDoorM31
import Derived.Below
import Derived.ChangeSame
import Derived.Deep.SlicePairs
import Derived.ProofKit
import Derived.OpenShut
import Derived.SizedLaws
import Derived.JoinedCond
set_option linter.unusedVariables false
set_option linter.unusedSimpArgs false
namespace Go.Proofs.YtcaekfebnhedpaaGreatDoor
open Go.RowKit

theorem own_setT {w : World} {base : Nat} {e : TypeId} {size n : Nat} {v : Value} {xs : List Value} (h : w.ownsRow base e size v n xs) {g o : Nat} {C : Array Value} {T : TypeId} {fr : Nat × Nat} (hg : w.heap[g]? = some (.cells C T fr)) (hT : T ≠ e) (u : Value) : (w.setCell ⟨g, o, none⟩ u).ownsRow base e size v n xs :=
  h.kept (row := some g) ⟨rfl, rfl, rfl, by simp [World.setCell], fun i _ hne => DA.heap_rest (fun he => hne (by rw [he])) o u⟩ (by
    rcases h.2 with ⟨h1, _⟩ | ⟨g', cap, cur, h1, _, h3, _⟩
    · subst h1; exact .inl rfl
    · subst h1
      refine .inr fun he => ?_
      have : g' = g := by simpa [Value.ownBlock] using he
      subst this
      rw [hg] at h3
      injection h3 with h3
      injection h3 with _ h4
      exact hT h4)
theorem DA.runs_skip {P : Program} {V : Value → Prop} {S : Value → World → Prop} {r : Result Next} {w : World} (hr : r = .ok .skip w) (hV : V undef) (hS : S undef w) : DA.RunsTo P V S r := by subst hr; exact ⟨hV, hS⟩
structure TqOK (T : TypeId) (tr : List Tr) : Prop where
  step : ∀ t ∈ tr, ∀ W W' v, Below W.heap.size W W' → t.R W v → t.R W' v
  set : ∀ t ∈ tr, ∀ (W : World) (g : Nat) (C : Array Value) u o v, W.heap[g]? = some (.cells C T (0, 0)) → t.R W v → t.R (W.setCell ⟨g, o, none⟩ u) v
theorem TqOK.nil {T : TypeId} : TqOK T [] := ⟨fun _ h => by (cases h), fun _ h => by (cases h)⟩
theorem TqOK.cons {T : TypeId} {t : Tr} {tr : List Tr} (h1 : ∀ W W' v, Below W.heap.size W W' → t.R W v → t.R W' v) (h2 : ∀ (W : World) (g : Nat) (C : Array Value) u o v, W.heap[g]? = some (.cells C T (0, 0)) → t.R W v → t.R (W.setCell ⟨g, o, none⟩ u) v) (h : TqOK T tr) : TqOK T (t :: tr) :=
  ⟨fun x hx => by rcases List.mem_cons.1 hx with rfl | hx; exact h1; exact h.step x hx, fun x hx => by rcases List.mem_cons.1 hx with rfl | hx; exact h2; exact h.set x hx⟩
/-- The box: made by operation ia into slot p (z in it), filled by operation st with F of slot q, which operation iq fills. -/
structure Bq where
  ia : Nat
  p : Nat
  st : Nat
  iq : Nat
  q : Nat
  z : Array Value
  F : Value → Array Value
  T : TypeId
structure SQ (w0 : World) (N : Nat) (b : Bq) (tr : List Tr) (L : Array Bool) (a : Act) (W : World) : Prop where
  grow : Below w0.heap.size w0 W
  size : a.tmps.size = N
  box : L.getD b.ia false = true → ∃ g, a.tmps[b.p]? = some (.pointer (some ⟨g, 0, none⟩)) ∧ w0.heap.size ≤ g ∧ g < W.heap.size ∧ (L.getD b.st false = false → W.heap[g]? = some (.cells b.z b.T (0, 0))) ∧
    (L.getD b.st false = true → ∃ u, a.tmps[b.q]? = some u ∧ W.heap[g]? = some (.cells (b.F u) b.T (0, 0)))
  dep : L.getD b.st false = true → L.getD b.ia false = true ∧ L.getD b.iq false = true
  row : ∀ t ∈ tr, L.getD t.i false = true → ∃ v, a.tmps[t.p]? = some v ∧ t.R W v
section
variable {w0 W W' : World} {N : Nat} {b : Bq} {tr : List Tr} {L : Array Bool} {a : Act} {i : Nat} {dst : Option Tmp} {v : Value}
theorem SQ.start {k : Nat} (h : a.tmps.size = N) : SQ w0 N b tr (Array.replicate k false) a w0.drew :=
  ⟨(Below.refl _ _).drew, h, fun h => (by rw [DA.rep_getD] at h; cases h), fun h => (by rw [DA.rep_getD] at h; cases h), fun t _ h => (by rw [DA.rep_getD] at h; cases h)⟩
theorem SQ.box_other (hia : i ≠ b.ia) (his : i ≠ b.st) (hdp : dst ≠ some b.p) (hq : dst = some b.q → i = b.iq) (hL : L.getD i true = false) (h : SQ w0 N b tr L a W) (hb : Below W.heap.size W W')
    (h1 : (L.setIfInBounds i true).getD b.ia false = true) : ∃ g, (a.put dst v).tmps[b.p]? = some (.pointer (some ⟨g, 0, none⟩)) ∧ w0.heap.size ≤ g ∧ g < W'.heap.size ∧ ((L.setIfInBounds i true).getD b.st false = false → W'.heap[g]? = some (.cells b.z b.T (0, 0))) ∧
    ((L.setIfInBounds i true).getD b.st false = true → ∃ u, (a.put dst v).tmps[b.q]? = some u ∧ W'.heap[g]? = some (.cells (b.F u) b.T (0, 0))) := by
  rw [getD_set_ne false hia] at h1
  obtain ⟨g, e1, e2, e3, e4, e5⟩ := h.box h1
  refine ⟨g, (DA.put_get hdp).trans e1, e2, Nat.lt_of_lt_of_le e3 hb.size, fun h0 => ?_, fun h0 => ?_⟩
  · rw [getD_set_ne false his] at h0
    rw [hb.block g e3]; exact e4 h0
  · rw [getD_set_ne false his] at h0
    obtain ⟨u, f1, f2⟩ := e5 h0
    refine ⟨u, ?_, by rw [hb.block g e3]; exact f2⟩
    rw [DA.put_get]; exact f1
    intro hd
    have := (h.dep h0).2
    rw [← hq hd, DA.getD_un hL] at this; cases this
theorem SQ.dep_other (hia : i ≠ b.ia) (his : i ≠ b.st) (hL : L.getD i true = false) (h : SQ w0 N b tr L a W) (h1 : (L.setIfInBounds i true).getD b.st false = true) : (L.setIfInBounds i true).getD b.ia false = true ∧ (L.setIfInBounds i true).getD b.iq false = true := by
  rw [getD_set_ne false his] at h1
  obtain ⟨d1, d2⟩ := h.dep h1
  refine ⟨by rw [getD_set_ne false hia]; exact d1, ?_⟩
  by_cases he : i = b.iq
  · rw [← he, DA.getD_un hL] at d2; cases d2
  · rw [getD_set_ne false he]; exact d2
theorem SQ.other (ok : TqOK b.T tr) (hi : ∀ t ∈ tr, t.i ≠ i ∧ dst ≠ some t.p) (hia : i ≠ b.ia) (his : i ≠ b.st) (hdp : dst ≠ some b.p) (hq : dst = some b.q → i = b.iq) (hL : L.getD i true = false) (h : SQ w0 N b tr L a W) (hb : Below W.heap.size W W') :
    SQ w0 N b tr (L.setIfInBounds i true) (a.put dst v) W' := by
  refine ⟨bnext h.grow hb h.grow.size, DA.put_size.trans h.size, h.box_other hia his hdp hq hL hb, h.dep_other hia his hL, fun t ht h1 => ?_⟩
  obtain ⟨n1, n2⟩ := hi t ht
  rw [getD_set_ne false (Ne.symm n1)] at h1
  obtain ⟨u, e1, e2⟩ := h.row t ht h1
  exact ⟨u, (DA.put_get n2).trans e1, ok.step t ht W W' u hb e2⟩
theorem SQ.made (t0 : Tr) (ok : TqOK b.T tr) (hi : ∀ t ∈ tr, t = t0 ∨ (t.i ≠ t0.i ∧ t.p ≠ t0.p)) (hp : t0.p < N) (hia : t0.i ≠ b.ia) (his : t0.i ≠ b.st) (hdp : t0.p ≠ b.p) (hq : t0.p = b.q → t0.i = b.iq) (hL : L.getD t0.i true = false) (h : SQ w0 N b tr L a W) (hb : Below W.heap.size W W') (hR : t0.R W' v) :
    SQ w0 N b tr (L.setIfInBounds t0.i true) (a.put (some t0.p) v) W' := by
  refine ⟨bnext h.grow hb h.grow.size, DA.put_size.trans h.size, h.box_other hia his (by simpa using hdp) (fun e => hq (by injection e)) hL hb, h.dep_other hia his hL, fun t ht h1 => ?_⟩
  rcases hi t ht with rfl | ⟨n1, n2⟩
  · exact ⟨v, DA.put_self (by rw [h.size]; exact hp), hR⟩
  · rw [getD_set_ne false (Ne.symm n1)] at h1
    obtain ⟨u, e1, e2⟩ := h.row t ht h1
    exact ⟨u, (DA.put_get (fun e => n2 (by injection e with e; exact e.symm))).trans e1, ok.step t ht W W' u hb e2⟩
/-- The box is made. -/
theorem SQ.boxed (ok : TqOK b.T tr) (hi : ∀ t ∈ tr, t.i ≠ b.ia ∧ t.p ≠ b.p) (hp : b.p < N) (hne : b.ia ≠ b.st) (hnq : b.ia ≠ b.iq) (hL : L.getD b.ia true = false) (h : SQ w0 N b tr L a W) :
    SQ w0 N b tr (L.setIfInBounds b.ia true) (a.put (some b.p) (.pointer (some ⟨W.heap.size, 0, none⟩))) (W.alloc (.cells b.z b.T)) := by
  have hal := alloc_below W (.cells b.z b.T)
  have hs0 : L.getD b.st false = false := by
    cases e : L.getD b.st false with
    | false => rfl
    | true => have := (h.dep e).1; rw [DA.getD_un hL] at this; cases this
  refine ⟨bnext h.grow hal h.grow.size, DA.put_size.trans h.size, fun _ => ⟨W.heap.size, DA.put_self (by rw [h.size]; exact hp), h.grow.size, by simp, fun _ => heap_alloc_new W _, fun h1 => ?_⟩, fun h1 => ?_, fun t ht h1 => ?_⟩
  · rw [getD_set_ne false hne, hs0] at h1; cases h1
  · rw [getD_set_ne false hne, hs0] at h1; cases h1
  · obtain ⟨n1, n2⟩ := hi t ht
    rw [getD_set_ne false (Ne.symm n1)] at h1
    obtain ⟨u, e1, e2⟩ := h.row t ht h1
    exact ⟨u, (DA.put_get (fun e => n2 (by injection e with e; exact e.symm))).trans e1, ok.step t ht _ _ u hal e2⟩
/-- What a store sees of the box. -/
theorem SQ.seebox {a' : Act} {g : Nat} (h : SQ w0 N b tr L a' W) (hL : L.getD b.ia false = true) (hs : L.getD b.st false = false) (he : a'.eval (.tmp b.p) = .pointer (some ⟨g, 0, none⟩)) : w0.heap.size ≤ g ∧ g < W.heap.size ∧ W.heap[g]? = some (.cells b.z b.T (0, 0)) := by
  obtain ⟨g', e1, e2, e3, e4, -⟩ := h.box hL
  have := slot_val he (by simp [undef])
  rw [e1] at this
  simp at this
  subst this
  exact ⟨e2, e3, e4 hs⟩
theorem SQ.stored {g : Nat} {u0 u1 u2 u3 v0 v1 v2 v3 : Value} (ok : TqOK b.T tr) (hi : ∀ t ∈ tr, t.i ≠ b.st) (hne : b.st ≠ b.ia) (hnq : b.st ≠ b.iq) (hL : L.getD b.st true = false) (hia : L.getD b.ia false = true) (hiq : L.getD b.iq false = true) (h : SQ w0 N b tr L a W)
    (hz : b.z = #[v0, v1, v2, v3]) {u : Value} (hF : b.F u = #[u0, u1, u2, u3]) (hu : a.tmps[b.q]? = some u) (hg : a.tmps[b.p]? = some (.pointer (some ⟨g, 0, none⟩))) :
    SQ w0 N b tr (L.setIfInBounds b.st true) (a.put none v) ((((W.setCell ⟨g, 0, none⟩ u0).setCell ⟨g, 1, none⟩ u1).setCell ⟨g, 2, none⟩ u2).setCell ⟨g, 3, none⟩ u3) := by
  obtain ⟨g', e1, e2, e3, e4, -⟩ := h.box hia
  rw [hg] at e1
  simp at e1
  subst e1
  have hc := e4 (DA.getD_un hL)
  rw [hz] at hc
  have h4 := heap_set4 (u0 := u0) (u1 := u1) (u2 := u2) (u3 := u3) hc
  refine ⟨(Gb.set4 (g := g) (W := W)).below (B := w0.heap.size) e2 h.grow.size |> fun k => ⟨k.os.trans h.grow.os, k.tape.trans h.grow.tape, k.output.trans h.grow.output, Nat.le_trans h.grow.size k.size, fun i hi => (k.block i hi).trans (h.grow.block i hi)⟩, h.size, fun _ => ⟨g, hg, e2, by rw [DA.size_set, DA.size_set, DA.size_set, DA.size_set]; exact e3, fun h0 => ?_, fun _ => ⟨u, hu, by rw [hF]; exact h4⟩⟩, fun _ => ⟨?_, ?_⟩, fun t ht h1 => ?_⟩
  · rw [DA.getD_set_self hL] at h0; cases h0
  · rw [getD_set_ne false hne]; exact hia
  · rw [getD_set_ne false hnq]; exact hiq
  · rw [getD_set_ne false (Ne.symm (hi t ht))] at h1
    obtain ⟨x, f1, f2⟩ := h.row t ht h1
    refine ⟨x, f1, ?_⟩
    have s0 := ok.set t ht W g _ u0 0 x hc f2
    have c1 := DA.heap_set hc 0 u0
    have s1 := ok.set t ht _ g _ u1 1 x c1 s0
    have c2 := DA.heap_set c1 1 u1
    have s2 := ok.set t ht _ g _ u2 2 x c2 s1
    exact ok.set t ht _ g _ u3 3 x (DA.heap_set c2 2 u2) s2
end
theorem SQ.see {w0 W : World} {N : Nat} {b : Bq} {tr : List Tr} {L : Array Bool} {a a' : Act} {t : Tr} (h : SQ w0 N b tr L a' W) (ht : t ∈ tr) (hL : L.getD t.i false = true)
    (he : a'.eval (.tmp t.p) = a.eval (.tmp t.p)) (hv : a.eval (.tmp t.p) ≠ undef) : t.R W (a.eval (.tmp t.p)) := by
  obtain ⟨v, e1, e2⟩ := h.row t ht hL
  have := slot_val he hv
  rw [e1] at this
  rw [← Option.some.inj this]; exact e2
end Go.Proofs.YtcaekfebnhedpaaGreatDoor
namespace Go.Proofs.YtcaekfebnhedpaaGreatDoor.bulks

theorem one_le {H : Type} (d : DataW H) : 1 ≤ Rows.uptoBulk d := by
  cases d with
  | lit l => cases l <;> simp [Rows.uptoBulk]
  | nil => simp [Rows.uptoBulk]
  | ptr d => simp [Rows.uptoBulk]
  | slice elems spare => simp [Rows.uptoBulk]
  | agg parts => simp [Rows.uptoBulk]
  | iface t d => simp [Rows.uptoBulk]
  | map entries => simp [Rows.uptoBulk]
  | held h => simp [Rows.uptoBulk]

/-- a part's bulk is at most the whole's -/
theorem part_le {H : Type} {d : DataW H} {l : List (DataW H)} (h : d ∈ l) : Rows.uptoBulk d ≤ Rows.uptoBulkAll l := by
  induction l with
  | nil => cases h
  | cons x r ih =>
    simp only [Rows.uptoBulkAll]
    cases List.mem_cons.1 h with
    | inl e => subst e; omega
    | inr e => have := ih e; omega

theorem append {H : Type} (l r : List (DataW H)) : Rows.uptoBulkAll (l ++ r) = Rows.uptoBulkAll l + Rows.uptoBulkAll r := by
  induction l with
  | nil => simp [Rows.uptoBulkAll]
  | cons x l ih => simp only [List.cons_append, Rows.uptoBulkAll, ih]; omega

/-- so many values at the most -/
theorem length_le {H : Type} (l : List (DataW H)) : l.length ≤ Rows.uptoBulkAll l := by
  induction l with
  | nil => simp [Rows.uptoBulkAll]
  | cons x r ih => have := one_le x; simp only [Rows.uptoBulkAll, List.length_cons]; omega

/-- a slice's places, and what they hold -/
theorem slice_le {H : Type} (elems spare : List (DataW H)) : elems.length + spare.length + 1 ≤ Rows.uptoBulk (.slice elems spare) := by
  have h1 := length_le elems
  have h2 := length_le spare
  simp only [Rows.uptoBulk]
  omega
theorem slice_elems {H : Type} (elems spare : List (DataW H)) : Rows.uptoBulkAll elems + 1 ≤ Rows.uptoBulk (.slice elems spare) := by
  simp only [Rows.uptoBulk]
  omega

/-- a string's letters -/
theorem string_eq {H : Type} (bytes : List UInt8) : Rows.uptoBulk (DataW.lit (H := H) (.string bytes)) = bytes.length + 1 := by
  simp [Rows.uptoBulk]

/-- THE BOUND, as the builder hands it over ('hk') -/
theorem bound {H : Type} {l : List (DataW H)} (hk : Rows.uptoSmall H l = true) : Rows.uptoBulkAll l ≤ 1048576 := by
  simpa [Rows.uptoSmall] using hk

/-- ROOM: a slice of n elements of b bytes, grown by append: below the 2^48 bytes that append, make and a Builder bear. Here n up to 2^21, b up to 4,096: put your own numbers. -/
theorem room {n b : Nat} (hn : n ≤ 2097152) (hb : b ≤ 4096) : (n + n / 4 + 192) * b ≤ 281474976710656 := by
  have h : (n + n / 4 + 192) * b ≤ 2621632 * 4096 := Nat.mul_le_mul (by omega) hb
  omega

end Go.Proofs.YtcaekfebnhedpaaGreatDoor.bulks
set_option linter.unusedVariables false
namespace Go.Proofs.YtcaekfebnhedpaaGreatDoor
open Go.RowKit Go.WideShapes Go.ChangeShapes

section
variable {H : Type} {enc : TypeId × Value → H} {P : Program}
theorem post_of_below {f : Func} {s : ChangeSpec} {apart fresh handsOn again : Bool} {W W' : World} {args : Array Value} {v : Value} {ds gs : List (DataW H)} {before pa pv : List MemPlace}
    (hW : DataW.Whole enc P f.params.toList s.vars apart W args.toList ds gs before)
    (hres : ∀ (b : Nat) (sp : Nat → Bool) (hd : Bool), DataW.TrodAll enc P W' b sp hd f.resultTypes.toList (v.resultList f.resultTypes.size) (s.fn H (ds ++ gs)).results [])
    (hargs : ∀ sp : Nat → Bool, (∀ p ∈ before, sp p.block = true) → DataW.TrodAll enc P W' 0 sp true f.params.toList args.toList (s.fn H (ds ++ gs)).args pa)
    (hvars : ∀ sp : Nat → Bool, (∀ p ∈ before, sp p.block = true) → DataW.TrodVars enc P W' sp s.vars (s.fn H (ds ++ gs)).vars pv)
    (hps : before = pa ++ pv) (hb : Below W.heap.size W W')
    (hok : ∀ (j : Nat) (t : TypeId) (r : Value), f.resultTypes[j]? = some t → (v.resultList f.resultTypes.size)[j]? = some r → Value.okWide P W' .any 0 t r) :
    s.post enc P f apart fresh handsOn again W args v W' := by
  have hlt : ∀ p ∈ before, p.block < W.heap.size := fun p hp => hW.lt p hp
  have hold : ∀ p ∈ before, (fun b => decide (b < W.heap.size)) p.block = true := fun p hp => by simpa using hlt p hp
  refine ⟨ds, gs, before, [], pa, pv, hW, hres _ _ _, hargs _ hold, hvars _ hold, World.keptBut_mono (fun p hp => ⟨hp, ?_⟩) (hb.frame (· ∈ before)), fun _ => ?_⟩
  · rw [hps, List.mem_append] at hp
    exact Or.inr hp
  · obtain ⟨_, _, _, _, _, hz, hn⟩ := hW
    refine ⟨hok, _, _, ([] ++ pa) ++ pv, ⟨[] ++ pa, pv, trodAll_append (hargs _ (fun _ _ => rfl)) (hres _ _ _), hvars _ (fun _ _ => rfl), rfl, ?_, ?_⟩, ?_⟩
    · intro b off hp
      have hin : MemPlace.cell b off ∈ before := by rw [hps]; simpa using hp
      rw [hb.frozen (hlt _ hin)]
      exact hz b off hin
    · intro ha
      have := hn ha
      rw [hps] at this
      simpa using this
    · intro p hp _
      rw [hps]
      simpa using hp
end

end Go.Proofs.YtcaekfebnhedpaaGreatDoor
set_option linter.unusedVariables false
set_option linter.unusedSimpArgs false
set_option maxRecDepth 100000
namespace Go.Proofs.YtcaekfebnhedpaaGreatDoor
open Go.ChangeShapes Go.WideShapes Go.ChangeAt Go.RowKit Go.Deep

/-- An argument reads as it did where below the old heap all stands. -/
theorem arg_stays {H : Type} {enc : TypeId × Value → H} {P : Program} {t : TypeId} (hl : laidOutB P = true) (hr : P.readableRec t = true) (hrow : t < P.types.size) {W W' : World} {v : Value} {d : DataW H} {ps : List MemPlace}
    (h : DataW.Trod enc P W 0 (fun _ => true) true t v d ps) (hb : Below W.heap.size W W') (hlt : ∀ x ∈ ps, x.block < W.heap.size) (sp : Nat → Bool) (hsp : ∀ x ∈ ps, sp x.block = true) :
    DataW.Trod enc P W' 0 sp true t v d ps :=
  WideElems.Trod_stays hl hr hrow h (fun x hx => hb.same (hlt x hx)) hsp
theorem laidOut : laidOutB Tryz.prog = true := by kernel_rfl

theorem str_of_trod {H : Type} {enc : TypeId × Value → H} {W : World} {base : Nat} {sp : Nat → Bool} {n : Nat} {v : Value} {d : DataW H} {ps : List MemPlace}
    (h : DataW.trod enc Tryz.prog W base sp true n 9 [v] = some (d, ps)) : ∃ l : List UInt8, v = .string (bs l) ∧ d = .lit (.string l) := by
  obtain ⟨s, e1, e2⟩ := DataW.trod_string Tryz.underlying9 h
  simp at e1 e2
  obtain ⟨⟨rfl, _⟩, _⟩ := e2
  exact ⟨s.data.toList, e1, rfl⟩
/-- A text as an argument. -/
theorem opS {H : Type} {enc : TypeId × Value → H} {W : World} {base : Nat} {v : Value} {d : DataW H} {ps : List MemPlace} (hv : Value.okWide Tryz.prog W .any base 9 v)
    (h : DataW.Trod enc Tryz.prog W 0 (fun _ => true) true 9 v d ps) : ∃ l : List UInt8, v = .string (bs l) ∧ d = .lit (.string l) := by
  obtain ⟨s, rfl, rfl, _, _⟩ := Go.ChangeMaps.open_string Tryz.underlying9 hv h
  exact ⟨s.data.toList, rfl, rfl⟩
/-- A number as an argument. -/
theorem opI {H : Type} {enc : TypeId × Value → H} {W : World} {base : Nat} {v : Value} {d : DataW H} {ps : List MemPlace} (hv : Value.okWide Tryz.prog W .any base 3 v)
    (h : DataW.Trod enc Tryz.prog W 0 (fun _ => true) true 3 v d ps) : ∃ n : Int, v = .int .i64 n ∧ -9223372036854775808 ≤ n ∧ n ≤ 9223372036854775807 := by
  obtain ⟨n, rfl, _, _, wf⟩ := open_int Tryz.underlying3 hv h
  refine ⟨n, rfl, ?_⟩
  simpa [Lit.wf, IntKind.min, IntKind.max, IntKind.signed, IntKind.bits] using wf
theorem spot_of_cell {w : World} {a : Addr} {v : Value} (h : w.cell? a = some v) : a.spot = none := by
  unfold World.cell? at h
  split at h
  · split at h
    · cases h
    · rename_i h'; simpa using h'
  · cases h
theorem fld_desc : Tryz.prog.underlying 46 = some (.struct (Tryz.prog.fieldsOf 46)) := by kernel_rfl
theorem fld_shape : (Tryz.prog.fieldsOf 46).size = 2 ∧ ∀ f0 f1, Tryz.prog.fieldsOf 46 = #[f0, f1] → f0.type = 9 ∧ f1.type = 9 ∧ f0.offset = 0 ∧ f1.offset = 1 := by
  have h : (Tryz.prog.fieldsOf 46).toList.map (fun f => (f.type, f.offset)) = [(9, 0), (9, 1)] := by kernel_rfl
  refine ⟨by have := congrArg List.length h; simpa using this, fun f0 f1 e => ?_⟩
  rw [e] at h
  simp at h
  exact ⟨h.1.1, h.2.1, h.1.2, h.2.2⟩
/-- Fields as an argument: the list, with the second form's bound on it. -/
theorem opF {H : Type} {enc : TypeId × Value → H} {W : World} {base : Nat} {v : Value} {d : DataW H} {ps : List MemPlace} {b : Nat} (hv : Value.okWide Tryz.prog W .any base 29 v)
    (h : DataW.Trod enc Tryz.prog W 0 (fun _ => true) true 29 v d ps) (hb : Rows.uptoBulk d ≤ b) :
    ∃ (A : Option Addr) (n c : Nat) (l : List Fld), v = .slice A n c ∧ RdF W A n l ∧ n ≤ b ∧ (∀ f ∈ l, f.1.length ≤ b ∧ f.2.length ≤ b) := by
  obtain ⟨a0, n0, c0, rfl⟩ := okWide_slice Tryz.underlying29 hv
  obtain ⟨fuel, hf⟩ := h
  obtain ⟨hsz, hsh⟩ := fld_shape
  obtain ⟨f0, f1, he⟩ : ∃ f0 f1, Tryz.prog.fieldsOf 46 = #[f0, f1] := by
    match h : Tryz.prog.fieldsOf 46, hsz with
    | ⟨[f0, f1]⟩, _ => exact ⟨f0, f1, rfl⟩
  obtain ⟨t0, t1, o0, o1⟩ := hsh f0 f1 he
  have hfd := fld_desc
  rw [he] at hfd
  rcases open_slice_pairs Tryz.underlying29 hfd (by kernel_rfl) o0 o1 (by rw [t0]; kernel_rfl) (by rw [t1]; kernel_rfl) hf with ⟨hcs, hx⟩ | ⟨a, len, cap, m, n, V0, V1, D0, D1, P0, P1, hcs, _, hl, _, hm, hx, hc⟩
  · simp [Value.cells] at hcs
    obtain ⟨rfl, rfl, rfl⟩ := hcs
    exact ⟨none, 0, 0, [], rfl, RdF.nil _ _, by omega, by simp⟩
  · simp [Value.cells] at hcs
    obtain ⟨rfl, rfl, rfl⟩ := hcs
    simp at hm
    subst hm
    simp only [Prod.mk.injEq] at hx
    obtain ⟨rfl, rfl⟩ := hx
    have hS : ∀ i, i < n0 → ∃ q : Fld, W.cell? (a.add (i * 2)) = some (.string (bs q.1)) ∧ W.cell? (a.add (i * 2 + 1)) = some (.string (bs q.2)) ∧ D0 i = .lit (.string q.1) ∧ D1 i = .lit (.string q.2) := by
      intro i hi
      obtain ⟨h1, h2, h3, h4⟩ := hc i (by omega)
      rw [t0] at h3
      rw [t1] at h4
      obtain ⟨s, e1, e2⟩ := str_of_trod h3
      obtain ⟨r, e3, e4⟩ := str_of_trod h4
      exact ⟨(s, r), by rw [h1, e1], by rw [h2, e3], e2, e4⟩
    obtain ⟨q, hq⟩ := choose_lt hS
    have hlen : ((List.range n0).map q).length = n0 := by simp
    have hbulk : ∀ i, i < n0 → (q i).1.length ≤ b ∧ (q i).2.length ≤ b := by
      intro i hi
      have hmem : DataW.agg [D0 i, D1 i] ∈ (List.range n0).map (fun i => DataW.agg (H := H) [D0 i, D1 i]) := List.mem_map.2 ⟨i, by simpa using hi, rfl⟩
      have h1 := bulks.part_le hmem
      have h2 := bulks.slice_elems ((List.range n0).map (fun i => DataW.agg (H := H) [D0 i, D1 i])) ((List.range (m - n0)).map fun j => DataW.agg [D0 (n0 + j), D1 (n0 + j)])
      obtain ⟨_, _, e1, e2⟩ := hq i hi
      rw [e1, e2] at h1
      simp only [Rows.uptoBulk, Rows.uptoBulkAll] at h1 h2 hb
      omega
    refine ⟨some a, n0, m, (List.range n0).map q, rfl, ⟨hlen, by rw [fcells_length, hlen], fun hn => ?_⟩, ?_, ?_⟩
    · have hsp := spot_of_cell (hq 0 hn).1
      obtain ⟨g, o, s⟩ := a
      have hs : s = none := by simpa [Addr.add] using hsp
      subst hs
      refine ⟨g, o, rfl, World.block_lt_of_cell? W ⟨g, o, none⟩ (by have := (hq 0 hn).1; simpa [Addr.add] using this), fun j u hu => ?_⟩
      have hj : j < 2 * n0 := by
        have := (List.getElem?_eq_some_iff.1 hu).1
        rw [fcells_length, hlen] at this; omega
      rcases Nat.mod_two_eq_zero_or_one j with h0 | h0
      · obtain ⟨k, rfl⟩ : ∃ k, j = 2 * k := ⟨j / 2, by omega⟩
        have hk : k < ((List.range n0).map q).length := by rw [hlen]; omega
        rw [fcells_get1 _ k hk] at hu
        have := (hq k (by omega)).1
        rw [addr_add, Nat.mul_comm] at this
        rw [this, ← hu]
        simp [strV]
      · obtain ⟨k, rfl⟩ : ∃ k, j = 2 * k + 1 := ⟨j / 2, by omega⟩
        have hk : k < ((List.range n0).map q).length := by rw [hlen]; omega
        rw [fcells_get2 _ k hk] at hu
        have := (hq k (by omega)).2.1
        rw [addr_add, Nat.mul_comm] at this
        rw [this, ← hu]
        simp [strV]
    · have := bulks.slice_le ((List.range n0).map (fun i => DataW.agg (H := H) [D0 i, D1 i])) ((List.range (m - n0)).map fun j => DataW.agg [D0 (n0 + j), D1 (n0 + j)])
      simp at this
      omega
    · intro f hf
      obtain ⟨i, hi, rfl⟩ := List.mem_map.1 hf
      exact hbulk i (by simpa using hi)
end Go.Proofs.YtcaekfebnhedpaaGreatDoor
