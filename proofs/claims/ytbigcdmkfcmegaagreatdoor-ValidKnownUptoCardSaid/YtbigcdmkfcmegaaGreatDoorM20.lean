/- Joined texts: A region in which every operation yields a fixed value in every world that keeps an invariant may be walked in one order. Plain theory over Derived.OrdersHeld. The conditions stand in each line. -/
import Derived.Test.YtbigcdmkfcmegaaGreatDoorM6
import Derived.Deep.RegionHeld3
set_option linter.unusedVariables false
set_option linter.unusedSimpArgs false
namespace Go.Proofs.YtbigcdmkfcmegaaGreatDoor
open Go.RowKit

section
variable {P : Program} {ops : Array Oper} {Q : Exit → Act → World → Prop} {md : Region.Mode} {S : Array Bool → World → Prop}
/-- What an operation's run comes to. -/
def RunsTo (P : Program) (S : World → Prop) (v : Value) : Result Next → Prop
  | .ok (.value u) w' => u = v ∧ S w'
  | .ok .skip w' => v = undef ∧ S w'
  | .ok (.enter f args) w' => Calls P f args w' fun e w'' => e = .returned v ∧ S w''
  | _ => False
/-- In state a operation i yields v, in every world that keeps S. -/
def YS (P : Program) (ops : Array Oper) (S : Array Bool → World → Prop) (i : Nat) (o : Oper) (v : Value) (a : Act) : Prop :=
  (Region.wanted o (yielded ops a.tmps) = true ∧ ∀ L w, L.getD i true = false → S L w → RunsTo P (S (L.setIfInBounds i true)) v ((execOp a.eval o).run P w)) ∨
  (Region.wanted o (yielded ops a.tmps) = false ∧ v = undef ∧ ∀ L w, L.getD i true = false → S L w → S (L.setIfInBounds i true) w)
theorem YS.of_same {i : Nat} {o : Oper} {v : Value} {a a' : Act} (hy : YS P ops S i o v a) (he : execOp a'.eval o = execOp a.eval o)
    (hw : Region.wanted o (yielded ops a'.tmps) = Region.wanted o (yielded ops a.tmps)) : YS P ops S i o v a' := by
  unfold YS at *
  rw [he, hw]
  exact hy
theorem YS.put {i : Nat} {o : Oper} {v u : Value} {a : Act} {dst : Option Tmp} (hs : ∀ cs b, o.op ≠ .select cs b) (h : ∀ d, dst = some d → d ∉ o.looksAt ops) :
    YS P ops S i o v (a.put dst u) ↔ YS P ops S i o v a := by
  constructor
  · exact fun hy => hy.of_same (execOp_put o hs a dst u h).symm (wanted_put o a dst u h).symm
  · exact fun hy => hy.of_same (execOp_put o hs a dst u h) (wanted_put o a dst u h)
def DetS (P : Program) (md : Region.Mode) (ops : Array Oper) (Q : Exit → Act → World → Prop) (S : Array Bool → World → Prop) : Nat → Array Bool → Act → Prop
  | 0, listed, a => Region.ready md ops listed = [] ∧ ∀ w, S listed w → Q .normal a w
  | k + 1, listed, a => (Region.ready md ops listed = [] → ∀ w, S listed w → Q .normal a w) ∧
    ∀ i ∈ Region.ready md ops listed, ∃ o v, ops[i]? = some o ∧ YS P ops S i o v a ∧ DetS P md ops Q S k (listed.setIfInBounds i true) (a.put o.dst v)
theorem YS.wpOp {i : Nat} {o : Oper} {v : Value} {a : Act} {w : World} {listed : Array Bool} (hi : ops[i]? = some o) (hy : YS P ops S i o v a)
    (hl : listed.getD i true = false) (hS : S listed w) {K : Act → World → Prop} (h : ∀ w', S (listed.setIfInBounds i true) w' → K (a.put o.dst v) w') : wpOp P ops Q i K a w := by
  unfold Go.wpOp
  simp only [hi]
  rcases hy with ⟨hw, hv⟩ | ⟨hw, rfl, hk⟩
  · rw [if_pos hw]
    refine .inl ?_
    unfold Oper.wp
    have h9 := hv listed w hl hS
    generalize (execOp a.eval o).run P w = r at *
    unfold RunsTo at h9
    split at h9
    · obtain ⟨rfl, h9⟩ := h9; exact h _ h9
    · obtain ⟨rfl, h9⟩ := h9; exact h _ h9
    · refine Calls.mono h9 fun e w'' he => ?_
      obtain ⟨rfl, he⟩ := he
      exact h _ he
    · exact h9.elim
  · rw [if_neg (by rw [hw]; decide)]
    exact h _ (hk listed w hl hS)
theorem DetS.wpAny : ∀ (k : Nat) (listed : Array Bool) (a : Act) (w : World), DetS P md ops Q S k listed a → S listed w → wpAny P md ops Q k listed a w
  | 0, _, _, w, h, hS => ⟨h.1, h.2 w hS⟩
  | k + 1, listed, a, w, h, hS => ⟨fun h0 => h.1 h0 w hS, fun i hi => by
      obtain ⟨o, v, ho, hy, hn⟩ := h.2 i hi
      exact hy.wpOp ho (mem_ready.1 hi).1 hS fun w' h' => DetS.wpAny k _ _ w' hn h'⟩
theorem DetS.first {i : Nat} {oi : Oper} {v : Value} (hi : ops[i]? = some oi) (hsel : ∀ (j : Nat) (o : Oper) cs b, ops[j]? = some o → o.op ≠ .select cs b) :
    ∀ (k : Nat) (listed : Array Bool) (a : Act),
      (∀ j oj, ops[j]? = some oj → j ≠ i → listed.getD j true = false → (∀ e ∈ oj.after, Region.binds md e = true → e.on ≠ i) → oi.apart ops oj = true) →
      i ∈ Region.ready md ops listed → YS P ops S i oi v a →
      DetS P md ops Q S k (listed.setIfInBounds i true) (a.put oi.dst v) → DetS P md ops Q S (k + 1) listed a := by
  intro k
  induction k with
  | zero =>
    intro listed a _ hr hy H
    refine ⟨fun h => (by rw [h] at hr; cases hr), fun j hj => ?_⟩
    by_cases hji : j = i
    · subst hji; exact ⟨oi, v, hi, hy, H⟩
    · have := ready_mono hj hji
      rw [H.1] at this
      cases this
  | succ k ih =>
    intro listed a hfree hr hy H
    refine ⟨fun h => (by rw [h] at hr; cases hr), fun j hj => ?_⟩
    by_cases hji : j = i
    · subst hji; exact ⟨oi, v, hi, hy, H⟩
    · obtain ⟨oj', u, hoj', hyj, hn⟩ := H.2 j (ready_mono hj hji)
      obtain ⟨hjun, oj, hoj, hall⟩ := mem_ready.1 hj
      have he : oj' = oj := by rw [hoj] at hoj'; exact (Option.some.inj hoj').symm
      subst he
      have hnot : ∀ e ∈ oj'.after, Region.binds md e = true → e.on ≠ i := fun e he hb heq => by
        have h1 := hall e he hb
        have h0 := (mem_ready.1 hr).1
        rw [heq] at h1
        rcases Nat.lt_or_ge i listed.size with h' | h'
        · simp [h'] at h0 h1; rw [h0] at h1; cases h1
        · simp [Array.getElem?_eq_none h'] at h1
      obtain ⟨p1, p2, p3⟩ := Oper.apart_spec (hfree j oj' hoj hji hjun hnot)
      have hfree' : ∀ k ok, ops[k]? = some ok → k ≠ i → (listed.setIfInBounds j true).getD k true = false →
          (∀ e ∈ ok.after, Region.binds md e = true → e.on ≠ i) → oi.apart ops ok = true := fun k ok hk hki hun hno => by
        refine hfree k ok hk hki ?_ hno
        by_cases hjk : j = k
        · subst hjk; exact hjun
        · rw [getD_set_ne true hjk] at hun; exact hun
      refine ⟨oj', u, hoj, (YS.put (hsel j oj' · · hoj) p1).1 hyj, ?_⟩
      refine ih _ _ hfree' (ready_mono hr (Ne.symm hji)) ((YS.put (hsel i oi · · hi) p3).2 hy) ?_
      rw [Array.setIfInBounds_comm _ _ hji, ← Act.put_comm a v u p2]
      exact hn
theorem DetS.take {i : Nat} {oi : Oper} {v : Value} {k : Nat} {listed : Array Bool} {a : Act} (hi : ops[i]? = some oi)
    (hs : Region.noSelect ops = true) (hf : Region.free md ops listed i = true) (hr : (Region.ready md ops listed).contains i = true)
    (hy : YS P ops S i oi v a) (h : DetS P md ops Q S k (listed.setIfInBounds i true) (a.put oi.dst v)) : DetS P md ops Q S (k + 1) listed a :=
  DetS.first hi (Region.noSelect_spec hs) k listed a (Region.free_spec hi hf) (by simpa using hr) hy h
theorem DetS.takeL {l : List Oper} {i : Nat} {oi : Oper} {v : Value} {k : Nat} {listed : Array Bool} {a : Act} (hi : l[i]? = some oi)
    (hs : Region.noSelect l.toArray = true) (hf : Region.free md l.toArray listed i = true) (hr : (Region.ready md l.toArray listed).contains i = true)
    (hy : YS P l.toArray S i oi v a) (h : DetS P md l.toArray Q S k (listed.setIfInBounds i true) (a.put oi.dst v)) : DetS P md l.toArray Q S (k + 1) listed a :=
  DetS.take (by simpa using hi) hs hf hr hy h
theorem DetS.done {listed : Array Bool} {a : Act} (hr : Region.ready md ops listed = []) (h : ∀ w, S listed w → Q .normal a w) : ∀ k, DetS P md ops Q S k listed a
  | 0 => ⟨hr, h⟩
  | _ + 1 => ⟨fun _ => h, by rw [hr]; simp⟩
/-- The beginning. -/
theorem wp_region_det {id : Nat} {a : Act} {w : World} (hm : P.follows .mixedOrders = true) (hS : S (Array.replicate ops.size false) w.drew)
    (h : DetS P .any ops Q S ops.size (Array.replicate ops.size false) a) : (Code.region id ops true).wp P Q a w :=
  wp_region_any hm (DetS.wpAny _ _ _ _ h hS)
theorem wp_region_detN {n : Nat} {id : Nat} {a : Act} {w : World} (hm : P.follows .mixedOrders = true) (hn : ops.size = n) (hS : S (Array.replicate n false) w.drew)
    (h : DetS P .any ops Q S n (Array.replicate n false) a) : (Code.region id ops true).wp P Q a w := by
  subst hn
  exact wp_region_det hm hS h
/-- An operation that yields in every world of S, and leaves that world. -/
theorem YS.pure {i : Nat} {o : Oper} {v : Value} {a : Act} (hw : Region.wanted o (yielded ops a.tmps) = true)
    (hS : ∀ L w, L.getD i true = false → S L w → S (L.setIfInBounds i true) w)
    (hr : ∀ L w, S L w → (execOp a.eval o).run P w = .ok (.value v) w) : YS P ops S i o v a :=
  .inl ⟨hw, fun L w hl h => by rw [hr L w h]; exact ⟨rfl, hS L w hl h⟩⟩
/-- A call. -/
theorem YS.call {i : Nat} {o : Oper} {v : Value} {a : Act} {f : FuncId} {args : Array Value} (hw : Region.wanted o (yielded ops a.tmps) = true)
    (hr : ∀ w, (execOp a.eval o).run P w = .ok (.enter f args) w)
    (hc : ∀ L w, L.getD i true = false → S L w → Calls P f args w fun e w'' => e = .returned v ∧ S (L.setIfInBounds i true) w'') : YS P ops S i o v a :=
  .inl ⟨hw, fun L w hl h => by rw [hr w]; exact hc L w hl h⟩
/-- A store. -/
theorem YS.store {i : Nat} {o : Oper} {a : Act} {f : World → World} (hw : Region.wanted o (yielded ops a.tmps) = true)
    (hr : ∀ L w, L.getD i true = false → S L w → (execOp a.eval o).run P w = .ok .skip (f w) ∧ S (L.setIfInBounds i true) (f w)) : YS P ops S i o undef a :=
  .inl ⟨hw, fun L w hl h => by rw [(hr L w hl h).1]; exact ⟨rfl, (hr L w hl h).2⟩⟩
theorem getD_set_self {L : Array Bool} {i : Nat} (h : L.getD i true = false) : (L.setIfInBounds i true).getD i false = true := by
  have hlt : i < L.size := by
    rcases Nat.lt_or_ge i L.size with h' | h'
    · exact h'
    · simp [Array.getElem?_eq_none h'] at h
  simp [hlt]
theorem getD_un {L : Array Bool} {i : Nat} (h : L.getD i true = false) : L.getD i false = false := by
  rcases Nat.lt_or_ge i L.size with h' | h'
  · simpa [h'] using h
  · simp [Array.getElem?_eq_none h']
end
end Go.Proofs.YtbigcdmkfcmegaaGreatDoor
