/- Joined texts: A region in which every operation yields a value of a fixed kind in every world that keeps an invariant (which may speak of the slots, too) may be walked in one order. Plain theory over Derived.OrdersHeld. The conditions stand in each line. -/
import Derived.Test.YtcaekfebnhedpaaGreatDoorM2
import Derived.Test.YtcaekfebnhedpaaGreatDoorM10
import Derived.Deep.RegionHeld3
set_option linter.unusedVariables false
set_option linter.unusedSimpArgs false
namespace Go.Proofs.YtcaekfebnhedpaaGreatDoor
open Go.RowKit

namespace DA
section
variable {P : Program} {ops : Array Oper} {Q : Exit → Act → World → Prop} {md : Region.Mode} {V : Nat → Value → Prop} {S : Array Bool → Act → World → Prop}
/-- What an operation's run comes to. -/
def RunsTo (P : Program) (V : Value → Prop) (S : Value → World → Prop) : Result Next → Prop
  | .ok (.value u) w' => V u ∧ S u w'
  | .ok .skip w' => V undef ∧ S undef w'
  | .ok (.enter f args) w' => Calls P f args w' fun e w'' => ∃ v, e = .returned v ∧ V v ∧ S v w''
  | _ => False
/-- In state a operation i yields a value of its kind, in every world that keeps S. -/
def YS (P : Program) (md : Region.Mode) (ops : Array Oper) (V : Nat → Value → Prop) (S : Array Bool → Act → World → Prop) (i : Nat) (o : Oper) (a : Act) : Prop :=
  (Region.wanted o (yielded ops a.tmps) = true ∧ ∀ a' L w, (∀ x ∈ o.op.operands, a'.eval x = a.eval x) → L.getD i true = false → (∀ e ∈ o.after, Region.binds md e = true → L.getD e.on false = true) → S L a' w →
    RunsTo P (V i) (fun v w' => S (L.setIfInBounds i true) (a'.put o.dst v) w') ((execOp a.eval o).run P w)) ∨
  (Region.wanted o (yielded ops a.tmps) = false ∧ V i undef ∧ ∀ a' L w, L.getD i true = false → S L a' w → S (L.setIfInBounds i true) (a'.put o.dst undef) w)
theorem YS.of_same {i : Nat} {o : Oper} {a a' : Act} (hy : YS P md ops V S i o a) (he : execOp a'.eval o = execOp a.eval o) (hx : ∀ x ∈ o.op.operands, a'.eval x = a.eval x)
    (hw : Region.wanted o (yielded ops a'.tmps) = Region.wanted o (yielded ops a.tmps)) : YS P md ops V S i o a' := by
  unfold YS at *
  rw [he, hw]
  rcases hy with ⟨h1, h2⟩ | h
  · exact .inl ⟨h1, fun b L w hb => h2 b L w fun x hm => (hb x hm).trans (hx x hm)⟩
  · exact .inr h
theorem look_put {o : Oper} {dst : Option Tmp} {a : Act} {u : Value} (h : ∀ d, dst = some d → d ∉ o.looksAt ops) : ∀ x ∈ o.op.operands, (a.put dst u).eval x = a.eval x := fun x hx =>
  Act.eval_put fun d hd hxd => h d hd (by
    subst hxd
    exact List.mem_append_left _ (List.mem_filterMap.2 ⟨.tmp d, by simpa using hx, rfl⟩))
theorem YS.put {i : Nat} {o : Oper} {u : Value} {a : Act} {dst : Option Tmp} (hs : ∀ cs b, o.op ≠ .select cs b) (h : ∀ d, dst = some d → d ∉ o.looksAt ops) :
    YS P md ops V S i o (a.put dst u) ↔ YS P md ops V S i o a := by
  constructor
  · exact fun hy => hy.of_same (execOp_put o hs a dst u h).symm (fun x hx => (look_put h x hx).symm) (wanted_put o a dst u h).symm
  · exact fun hy => hy.of_same (execOp_put o hs a dst u h) (look_put h) (wanted_put o a dst u h)
def Det (P : Program) (md : Region.Mode) (ops : Array Oper) (Q : Exit → Act → World → Prop) (V : Nat → Value → Prop) (S : Array Bool → Act → World → Prop) : Nat → Array Bool → Act → Prop
  | 0, listed, a => Region.ready md ops listed = [] ∧ ∀ w, S listed a w → Q .normal a w
  | k + 1, listed, a => (Region.ready md ops listed = [] → ∀ w, S listed a w → Q .normal a w) ∧
    ∀ i ∈ Region.ready md ops listed, ∃ o, ops[i]? = some o ∧ YS P md ops V S i o a ∧ ∀ v, V i v → Det P md ops Q V S k (listed.setIfInBounds i true) (a.put o.dst v)
theorem YS.wpOp {i : Nat} {o : Oper} {a : Act} {w : World} {listed : Array Bool} (hi : ops[i]? = some o) (hy : YS P md ops V S i o a)
    (hl : listed.getD i true = false) (hd : ∀ e ∈ o.after, Region.binds md e = true → listed.getD e.on false = true) (hS : S listed a w) {K : Act → World → Prop} (h : ∀ v w', V i v → S (listed.setIfInBounds i true) (a.put o.dst v) w' → K (a.put o.dst v) w') : wpOp P ops Q i K a w := by
  unfold Go.wpOp
  simp only [hi]
  rcases hy with ⟨hw, hv⟩ | ⟨hw, hu, hk⟩
  · rw [if_pos hw]
    refine .inl ?_
    unfold Oper.wp
    have h9 := hv a listed w (fun _ _ => rfl) hl hd hS
    generalize (execOp a.eval o).run P w = r at *
    unfold RunsTo at h9
    split at h9
    · exact h _ _ h9.1 h9.2
    · exact h _ _ h9.1 h9.2
    · refine Calls.mono h9 fun e w'' he => ?_
      obtain ⟨v, rfl, h1, h2⟩ := he
      exact h _ _ h1 h2
    · exact h9.elim
  · rw [if_neg (by rw [hw]; decide)]
    exact h _ _ hu (hk a listed w hl hS)
theorem Det.wpAny : ∀ (k : Nat) (listed : Array Bool) (a : Act) (w : World), Det P md ops Q V S k listed a → S listed a w → wpAny P md ops Q k listed a w
  | 0, _, _, w, h, hS => ⟨h.1, h.2 w hS⟩
  | k + 1, listed, a, w, h, hS => ⟨fun h0 => h.1 h0 w hS, fun i hi => by
      obtain ⟨o, ho, hy, hn⟩ := h.2 i hi
      obtain ⟨hl, o2, ho2, hd⟩ := mem_ready.1 hi
      obtain rfl : o2 = o := by rw [ho] at ho2; exact (Option.some.inj ho2).symm
      exact hy.wpOp ho hl hd hS fun v w' hv h' => Det.wpAny k _ _ w' (hn v hv) h'⟩
theorem Det.first {i : Nat} {oi : Oper} (hi : ops[i]? = some oi) (hV : ∃ v, V i v) (hsel : ∀ (j : Nat) (o : Oper) cs b, ops[j]? = some o → o.op ≠ .select cs b) :
    ∀ (k : Nat) (listed : Array Bool) (a : Act),
      (∀ j oj, ops[j]? = some oj → j ≠ i → listed.getD j true = false → (∀ e ∈ oj.after, Region.binds md e = true → e.on ≠ i) → oi.apart ops oj = true) →
      i ∈ Region.ready md ops listed → YS P md ops V S i oi a →
      (∀ v, V i v → Det P md ops Q V S k (listed.setIfInBounds i true) (a.put oi.dst v)) → Det P md ops Q V S (k + 1) listed a := by
  intro k
  obtain ⟨v0, hv0⟩ := hV
  induction k with
  | zero =>
    intro listed a _ hr hy H
    refine ⟨fun h => (by rw [h] at hr; cases hr), fun j hj => ?_⟩
    by_cases hji : j = i
    · subst hji; exact ⟨oi, hi, hy, H⟩
    · have := ready_mono hj hji
      rw [(H v0 hv0).1] at this
      cases this
  | succ k ih =>
    intro listed a hfree hr hy H
    refine ⟨fun h => (by rw [h] at hr; cases hr), fun j hj => ?_⟩
    by_cases hji : j = i
    · subst hji; exact ⟨oi, hi, hy, H⟩
    · obtain ⟨oj', hoj', hyj, -⟩ := (H v0 hv0).2 j (ready_mono hj hji)
      obtain ⟨hjun, oj, hoj, hall⟩ := mem_ready.1 hj
      have he : oj' = oj := by rw [hoj] at hoj'; exact (Option.some.inj hoj').symm
      subst he
      have hnot : ∀ e ∈ oj'.after, Region.binds md e = true → e.on ≠ i := fun e he hb heq => by
        have h1 := hall e he hb
        have h0 := (mem_ready.1 hr).1
        rw [heq] at h1
        rcases Nat.lt_or_ge i listed.size with h' | h'
        · simp [h'] at h0 h1; rw [h0] at h1; cases h1
        · simp [Array.getElem?_eq_none h'] at h1
      obtain ⟨p1, p2, p3⟩ := Oper.apart_spec (hfree j oj' hoj hji hjun hnot)
      have hfree' : ∀ k ok, ops[k]? = some ok → k ≠ i → (listed.setIfInBounds j true).getD k true = false →
          (∀ e ∈ ok.after, Region.binds md e = true → e.on ≠ i) → oi.apart ops ok = true := fun k ok hk hki hun hno => by
        refine hfree k ok hk hki ?_ hno
        by_cases hjk : j = k
        · subst hjk; exact hjun
        · rw [getD_set_ne true hjk] at hun; exact hun
      refine ⟨oj', hoj, (YS.put (hsel j oj' · · hoj) p1).1 hyj, fun u hu => ?_⟩
      refine ih _ _ hfree' (ready_mono hr (Ne.symm hji)) ((YS.put (hsel i oi · · hi) p3).2 hy) fun v hv => ?_
      rw [Array.setIfInBounds_comm _ _ hji, ← Act.put_comm a v u p2]
      obtain ⟨oj2, hoj2, -, hn⟩ := (H v hv).2 j (ready_mono hj hji)
      have he2 : oj2 = oj' := by rw [hoj] at hoj2; exact (Option.some.inj hoj2).symm
      subst he2
      exact hn u hu
theorem Det.takeL {l : List Oper} {i : Nat} {oi : Oper} {k : Nat} {listed : Array Bool} {a : Act} (hi : l[i]? = some oi) (hV : ∃ v, V i v)
    (hs : Region.noSelect l.toArray = true) (hf : Region.free md l.toArray listed i = true) (hr : (Region.ready md l.toArray listed).contains i = true)
    (hy : YS P md l.toArray V S i oi a) (h : ∀ v, V i v → Det P md l.toArray Q V S k (listed.setIfInBounds i true) (a.put oi.dst v)) : Det P md l.toArray Q V S (k + 1) listed a := by
  have hi' : l.toArray[i]? = some oi := by simpa using hi
  exact Det.first hi' hV (Region.noSelect_spec hs) k listed a (Region.free_spec hi' hf) (by simpa using hr) hy h
/-- The operation whose value is fixed. -/
theorem Det.takeE {l : List Oper} {i : Nat} {oi : Oper} {k : Nat} {listed : Array Bool} {a : Act} (v : Value) (hi : l[i]? = some oi) (hV : ∀ u, V i u ↔ u = v)
    (hs : Region.noSelect l.toArray = true) (hf : Region.free md l.toArray listed i = true) (hr : (Region.ready md l.toArray listed).contains i = true)
    (hy : YS P md l.toArray V S i oi a) (h : Det P md l.toArray Q V S k (listed.setIfInBounds i true) (a.put oi.dst v)) : Det P md l.toArray Q V S (k + 1) listed a :=
  Det.takeL hi ⟨v, (hV v).2 rfl⟩ hs hf hr hy fun u hu => by rw [(hV u).1 hu]; exact h
theorem Det.done {listed : Array Bool} {a : Act} (hr : Region.ready md ops listed = []) (h : ∀ w, S listed a w → Q .normal a w) : ∀ k, Det P md ops Q V S k listed a
  | 0 => ⟨hr, h⟩
  | _ + 1 => ⟨fun _ => h, by rw [hr]; simp⟩
/-- The beginning. -/
theorem wp_region {n : Nat} {id : Nat} {a : Act} {w : World} (hm : P.follows .mixedOrders = true) (hn : ops.size = n) (hS : S (Array.replicate n false) a w.drew)
    (h : Det P .any ops Q V S n (Array.replicate n false) a) : (Code.region id ops true).wp P Q a w := by
  subst hn
  exact wp_region_any hm (Det.wpAny _ _ _ _ h hS)
/-- An operation that only reads. -/
theorem YS.pure {i : Nat} {o : Oper} {v : Value} {a : Act} (hw : Region.wanted o (yielded ops a.tmps) = true) (hV : V i v)
    (hr : ∀ a' L w, S L a' w → (execOp a.eval o).run P w = .ok (.value v) w)
    (hS : ∀ a' L w, L.getD i true = false → S L a' w → S (L.setIfInBounds i true) (a'.put o.dst v) w) : YS P md ops V S i o a :=
  .inl ⟨hw, fun a' L w _ hl _ h => by rw [hr a' L w h]; exact ⟨hV, hS a' L w hl h⟩⟩
/-- An operation that makes memory. -/
theorem YS.make {i : Nat} {o : Oper} {v : World → Value} {f : World → World} {a : Act} (hw : Region.wanted o (yielded ops a.tmps) = true)
    (hr : ∀ w, (execOp a.eval o).run P w = .ok (.value (v w)) (f w))
    (hS : ∀ a' L w, L.getD i true = false → S L a' w → V i (v w) ∧ S (L.setIfInBounds i true) (a'.put o.dst (v w)) (f w)) : YS P md ops V S i o a :=
  .inl ⟨hw, fun a' L w _ hl _ h => by rw [hr w]; exact hS a' L w hl h⟩
/-- A call. -/
theorem YS.call {i : Nat} {o : Oper} {a : Act} {f : FuncId} {args : Array Value} (hw : Region.wanted o (yielded ops a.tmps) = true)
    (hr : ∀ w, (execOp a.eval o).run P w = .ok (.enter f args) w)
    (hc : ∀ a' L w, L.getD i true = false → S L a' w → Calls P f args w fun e w'' => ∃ v, e = .returned v ∧ V i v ∧ S (L.setIfInBounds i true) (a'.put o.dst v) w'') : YS P md ops V S i o a :=
  .inl ⟨hw, fun a' L w _ hl _ h => by rw [hr w]; exact hc a' L w hl h⟩
/-- A store. -/
theorem YS.store {i : Nat} {o : Oper} {a : Act} {f : World → World} (hw : Region.wanted o (yielded ops a.tmps) = true) (hV : V i undef)
    (hr : ∀ a' L w, (∀ x ∈ o.op.operands, a'.eval x = a.eval x) → L.getD i true = false → (∀ e ∈ o.after, Region.binds md e = true → L.getD e.on false = true) → S L a' w → (execOp a.eval o).run P w = .ok .skip (f w) ∧ S (L.setIfInBounds i true) (a'.put o.dst undef) (f w)) : YS P md ops V S i o a :=
  .inl ⟨hw, fun a' L w he hl hd h => by rw [(hr a' L w he hl hd h).1]; exact ⟨hV, (hr a' L w he hl hd h).2⟩⟩
end
theorem getD_set_self {L : Array Bool} {i : Nat} (h : L.getD i true = false) : (L.setIfInBounds i true).getD i false = true := by
  have hlt : i < L.size := by
    rcases Nat.lt_or_ge i L.size with h' | h'
    · exact h'
    · simp [Array.getElem?_eq_none h'] at h
  simp [hlt]
theorem getD_un {L : Array Bool} {i : Nat} (h : L.getD i true = false) : L.getD i false = false := by
  rcases Nat.lt_or_ge i L.size with h' | h'
  · simpa [h'] using h
  · simp [Array.getElem?_eq_none h']
/-- A box that the region makes (slot p, made by operation ip, filled by operation is): its first cells, its later ones. -/
structure Box where
  p : Nat
  ip : Nat
  is : Nat
  z : Array Value
  c : Array Value
  T : TypeId
/-- Kinds of values by operation: a fixed one, or a pointer to a box. -/
def VK (vs : List (Option Value)) (i : Nat) (u : Value) : Prop := match vs[i]? with
  | some (some x) => u = x
  | _ => ∃ g, u = .pointer (some ⟨g, 0, none⟩)
/-- The world has grown alone, and the boxes stand as the operations have left them. -/
def SB (w0 : World) (n : Nat) (bx : List Box) (L : Array Bool) (a : Act) (w : World) : Prop :=
  Below w0.heap.size w0 w ∧ a.tmps.size = n ∧
  (∀ b ∈ bx, L.getD b.ip false = true → ∃ g, a.tmps[b.p]? = some (.pointer (some ⟨g, 0, none⟩)) ∧ w0.heap.size ≤ g ∧ g < w.heap.size ∧ w.heap[g]? = some (.cells (if L.getD b.is false = true then b.c else b.z) b.T (0, 0))) ∧
  (∀ b ∈ bx, ∀ b' ∈ bx, b.p ≠ b'.p → L.getD b.ip false = true → L.getD b'.ip false = true → a.tmps[b.p]? ≠ a.tmps[b'.p]?) ∧
  (∀ b ∈ bx, L.getD b.is false = true → L.getD b.ip false = true)
theorem put_get {a : Act} {dst : Option Tmp} {v : Value} {p : Nat} (h : dst ≠ some p) : (a.put dst v).tmps[p]? = a.tmps[p]? := by
  cases dst with
  | none => rfl
  | some d =>
    have hne : d ≠ p := fun e => h (by rw [e])
    simp [Act.put, Array.getElem?_setIfInBounds_ne hne]
theorem put_size {a : Act} {dst : Option Tmp} {v : Value} : (a.put dst v).tmps.size = a.tmps.size := by
  cases dst with
  | none => rfl
  | some d => simp [Act.put]
theorem put_self {a : Act} {p : Nat} {v : Value} (h : p < a.tmps.size) : (a.put (some p) v).tmps[p]? = some v := by
  simp [Act.put, h]
theorem rep_getD (k i : Nat) : (Array.replicate k false).getD i false = false := by
  rcases Nat.lt_or_ge i k with h | h
  · simp [h]
  · simp [h]
theorem SB.start {w0 : World} {n k : Nat} {bx : List Box} {a : Act} (h : a.tmps.size = n) : SB w0 n bx (Array.replicate k false) a w0.drew := by
  refine ⟨(Below.refl _ _).drew, h, fun b _ hb => ?_, fun b _ b' _ _ hb => ?_, fun b _ hb => ?_⟩
  · rw [rep_getD] at hb; cases hb
  · rw [rep_getD] at hb; cases hb
  · rw [rep_getD] at hb; cases hb
theorem SB.other {w0 w w' : World} {n i : Nat} {bx : List Box} {L : Array Bool} {a : Act} {dst : Option Tmp} {v : Value} (hi : ∀ b ∈ bx, b.ip ≠ i ∧ b.is ≠ i ∧ dst ≠ some b.p) (h : SB w0 n bx L a w) (hb : Below w.heap.size w w') :
    SB w0 n bx (L.setIfInBounds i true) (a.put dst v) w' := by
  obtain ⟨h1, h2, h3, h4, h5⟩ := h
  refine ⟨bnext h1 hb h1.size, put_size.trans h2, fun b hm hp => ?_, fun b hm b' hm' hne hp hp' => ?_, fun b hm hp => by rw [getD_set_ne false (Ne.symm (hi b hm).2.1)] at hp; rw [getD_set_ne false (Ne.symm (hi b hm).1)]; exact h5 b hm hp⟩
  · obtain ⟨e1, e2, e3⟩ := hi b hm
    rw [getD_set_ne false (Ne.symm e1)] at hp
    obtain ⟨g, k1, k2, k3, k4⟩ := h3 b hm hp
    refine ⟨g, (put_get e3).trans k1, k2, Nat.lt_of_lt_of_le k3 hb.size, ?_⟩
    rw [getD_set_ne false (Ne.symm e2), hb.block g k3]; exact k4
  · obtain ⟨e1, e2, e3⟩ := hi b hm
    obtain ⟨f1, f2, f3⟩ := hi b' hm'
    rw [getD_set_ne false (Ne.symm e1)] at hp
    rw [getD_set_ne false (Ne.symm f1)] at hp'
    rw [put_get e3, put_get f3]
    exact h4 b hm b' hm' hne hp hp'
theorem SB.make {w0 w : World} {n : Nat} {bx : List Box} {L : Array Bool} {a : Act} (b0 : Box) (hm0 : b0 ∈ bx) (hn : b0.p < n) (hun : L.getD b0.ip true = false) (hi : ∀ b ∈ bx, b.is ≠ b0.ip ∧ (b.p = b0.p → b = b0) ∧ (b.p ≠ b0.p → b.ip ≠ b0.ip)) (h : SB w0 n bx L a w) :
    SB w0 n bx (L.setIfInBounds b0.ip true) (a.put (some b0.p) (.pointer (some ⟨w.heap.size, 0, none⟩))) (w.alloc (.cells b0.z b0.T)) := by
  obtain ⟨h1, h2, h3, h4, h5⟩ := h
  have hs0 : L.getD b0.is false = false := by
    cases e : L.getD b0.is false with
    | false => rfl
    | true => have := h5 b0 hm0 e; rw [getD_un hun] at this; cases this
  have hal := alloc_below w (.cells b0.z b0.T)
  have hself : (a.put (some b0.p) (.pointer (some ⟨w.heap.size, 0, none⟩))).tmps[b0.p]? = some (.pointer (some ⟨w.heap.size, 0, none⟩)) := put_self (by omega)
  have hoth : ∀ b ∈ bx, b.p ≠ b0.p → (L.setIfInBounds b0.ip true).getD b.ip false = true → ∃ g, (a.put (some b0.p) (.pointer (some ⟨w.heap.size, 0, none⟩))).tmps[b.p]? = some (.pointer (some ⟨g, 0, none⟩)) ∧ w0.heap.size ≤ g ∧ g < w.heap.size ∧ w.heap[g]? = some (.cells (if (L.setIfInBounds b0.ip true).getD b.is false = true then b.c else b.z) b.T (0, 0)) := by
    intro b hm hne hp
    obtain ⟨e1, e2, e3⟩ := hi b hm
    rw [getD_set_ne false (Ne.symm (e3 hne))] at hp
    obtain ⟨g, k1, k2, k3, k4⟩ := h3 b hm hp
    refine ⟨g, (put_get (fun e => hne (by injection e with e; exact e.symm))).trans k1, k2, k3, ?_⟩
    rw [getD_set_ne false (Ne.symm e1)]; exact k4
  refine ⟨bnext h1 hal h1.size, put_size.trans h2, fun b hm hp => ?_, fun b hm b' hm' hne hp hp' => ?_, fun b hm hp => ?_⟩
  · by_cases he : b.p = b0.p
    · obtain rfl := (hi b hm).2.1 he
      refine ⟨w.heap.size, hself, h1.size, by simp, ?_⟩
      rw [getD_set_ne false (Ne.symm (hi b hm).1), hs0, if_neg (by decide)]
      exact heap_alloc_new w _
    · obtain ⟨g, k1, k2, k3, k4⟩ := hoth b hm he hp
      exact ⟨g, k1, k2, by simp; omega, by rw [hal.block g k3]; exact k4⟩
  · by_cases he : b.p = b0.p
    · have he' : b'.p ≠ b0.p := fun e => hne (by rw [he, e])
      obtain ⟨g, k1, k2, k3, k4⟩ := hoth b' hm' he' hp'
      rw [he, hself, k1]
      intro e
      simp at e <;> omega
    · obtain ⟨g, k1, k2, k3, k4⟩ := hoth b hm he hp
      by_cases he' : b'.p = b0.p
      · rw [he', hself, k1]
        intro e
        simp at e <;> omega
      · rw [put_get (fun e => he (by injection e with e; exact e.symm)), put_get (fun e => he' (by injection e with e; exact e.symm))]
        rw [getD_set_ne false (Ne.symm ((hi b hm).2.2 he))] at hp
        rw [getD_set_ne false (Ne.symm ((hi b' hm').2.2 he'))] at hp'
        exact h4 b hm b' hm' hne hp hp'
  · rw [getD_set_ne false (Ne.symm (hi b hm).1)] at hp
    by_cases he : b.p = b0.p
    · obtain rfl := (hi b hm).2.1 he
      exact getD_set_self hun
    · rw [getD_set_ne false (Ne.symm ((hi b hm).2.2 he))]; exact h5 b hm hp
theorem SB.row {w0 w : World} {n g : Nat} {bx : List Box} {L : Array Bool} {a : Act} (b0 : Box) (hm0 : b0 ∈ bx) (hip : L.getD b0.ip false = true) (hg : a.tmps[b0.p]? = some (.pointer (some ⟨g, 0, none⟩))) (h : SB w0 n bx L a w) :
    w0.heap.size ≤ g ∧ g < w.heap.size ∧ w.heap[g]? = some (.cells (if L.getD b0.is false = true then b0.c else b0.z) b0.T (0, 0)) := by
  obtain ⟨g', k1, k2, k3, k4⟩ := h.2.2.1 b0 hm0 hip
  rw [k1] at hg
  simp at hg
  subst hg
  exact ⟨k2, k3, k4⟩
theorem SB.store {w0 w w' : World} {n g : Nat} {bx : List Box} {L : Array Bool} {a : Act} (b0 : Box) (hm0 : b0 ∈ bx) (hip : L.getD b0.ip false = true) (hg : a.tmps[b0.p]? = some (.pointer (some ⟨g, 0, none⟩)))
    (hi : ∀ b ∈ bx, b.ip ≠ b0.is ∧ (b.p = b0.p → b = b0) ∧ (b.p ≠ b0.p → b.is ≠ b0.is)) (hun : L.getD b0.is true = false) (h : SB w0 n bx L a w)
    (hB : Below w0.heap.size w0 w') (hsz : w'.heap.size = w.heap.size) (hrow : w'.heap[g]? = some (.cells b0.c b0.T (0, 0))) (hrest : ∀ k, k ≠ g → w'.heap[k]? = w.heap[k]?) {v : Value} :
    SB w0 n bx (L.setIfInBounds b0.is true) (a.put none v) w' := by
  obtain ⟨h1, h2, h3, h4, h5⟩ := h
  refine ⟨hB, h2, fun b hm hp => ?_, fun b hm b' hm' hne hp hp' => ?_, fun b hm hp => ?_⟩
  · rw [getD_set_ne false (Ne.symm (hi b hm).1)] at hp
    obtain ⟨g', k1, k2, k3, k4⟩ := h3 b hm hp
    by_cases he : b.p = b0.p
    · obtain rfl := (hi b hm).2.1 he
      rw [hg] at k1
      simp at k1
      subst k1
      refine ⟨g, hg, k2, by omega, ?_⟩
      rw [getD_set_self hun, if_pos rfl]; exact hrow
    · refine ⟨g', k1, k2, by omega, ?_⟩
      have hgg : g' ≠ g := fun e => h4 b hm b0 hm0 he hp hip (by rw [k1, hg, e])
      rw [hrest g' hgg, getD_set_ne false (Ne.symm ((hi b hm).2.2 he))]; exact k4
  · rw [getD_set_ne false (Ne.symm (hi b hm).1)] at hp
    rw [getD_set_ne false (Ne.symm (hi b' hm').1)] at hp'
    exact h4 b hm b' hm' hne hp hp'
  · rw [getD_set_ne false (Ne.symm (hi b hm).1)]
    by_cases he : b.p = b0.p
    · obtain rfl := (hi b hm).2.1 he
      exact hip
    · rw [getD_set_ne false (Ne.symm ((hi b hm).2.2 he))] at hp; exact h5 b hm hp
/-- The box's address in a slot, as an operation sees it. -/
theorem slot_of {a' : Act} {p : Nat} {g : Nat} (h : a'.eval (.tmp p) = .pointer (some ⟨g, 0, none⟩)) : a'.tmps[p]? = some (.pointer (some ⟨g, 0, none⟩)) := by
  have h' : (a'.tmps[p]?).getD undef = .pointer (some ⟨g, 0, none⟩) := by simpa [Act.eval] using h
  cases e : a'.tmps[p]? with
  | none => rw [e] at h'; cases h'
  | some x => rw [e] at h'; exact congrArg some h'
theorem heap_set {w : World} {b : Nat} {cs : Array Value} {t : TypeId} (h : w.heap[b]? = some (.cells cs t (0, 0))) (o : Nat) (v : Value) :
    (w.setCell ⟨b, o, none⟩ v).heap[b]? = some (.cells (cs.setIfInBounds o v) t (0, 0)) := by
  simp [World.setCell, Array.getElem?_modify, h]
theorem heap_rest {w : World} {b k : Nat} (h : k ≠ b) (o : Nat) (v : Value) : (w.setCell ⟨b, o, none⟩ v).heap[k]? = w.heap[k]? := by
  simp [World.setCell, Array.getElem?_modify, Ne.symm h]
theorem size_set {w : World} (p : Addr) (v : Value) : (w.setCell p v).heap.size = w.heap.size := by simp [World.setCell]
end DA
end Go.Proofs.YtcaekfebnhedpaaGreatDoor
