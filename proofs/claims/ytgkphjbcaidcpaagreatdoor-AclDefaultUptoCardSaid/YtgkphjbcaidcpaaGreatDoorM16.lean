/- Joined texts: A region in which every operation yields a fixed value in every world that keeps an invariant may be walked in one order. Plain theory over Derived.OrdersHeld; A rule's matches. The conditions stand in each line. -/
import Derived.Test.YtgkphjbcaidcpaaGreatDoorM8
import Derived.Test.YtgkphjbcaidcpaaGreatDoorM15
import Derived.Deep.RegionHeld3
set_option linter.unusedVariables false
set_option linter.unusedSimpArgs false
namespace Go.Proofs.YtgkphjbcaidcpaaGreatDoor
open Go.RowKit

section
variable {P : Program} {ops : Array Oper} {Q : Exit → Act → World → Prop} {md : Region.Mode} {S : Array Bool → World → Prop}
/-- What an operation's run comes to. -/
def RunsTo (P : Program) (S : World → Prop) (v : Value) : Result Next → Prop
  | .ok (.value u) w' => u = v ∧ S w'
  | .ok .skip w' => v = undef ∧ S w'
  | .ok (.enter f args) w' => Calls P f args w' fun e w'' => e = .returned v ∧ S w''
  | _ => False
/-- In state a operation i yields v, in every world that keeps S. -/
def YS (P : Program) (ops : Array Oper) (S : Array Bool → World → Prop) (i : Nat) (o : Oper) (v : Value) (a : Act) : Prop :=
  (Region.wanted o (yielded ops a.tmps) = true ∧ ∀ L w, L.getD i true = false → S L w → RunsTo P (S (L.setIfInBounds i true)) v ((execOp a.eval o).run P w)) ∨
  (Region.wanted o (yielded ops a.tmps) = false ∧ v = undef ∧ ∀ L w, L.getD i true = false → S L w → S (L.setIfInBounds i true) w)
theorem YS.of_same {i : Nat} {o : Oper} {v : Value} {a a' : Act} (hy : YS P ops S i o v a) (he : execOp a'.eval o = execOp a.eval o)
    (hw : Region.wanted o (yielded ops a'.tmps) = Region.wanted o (yielded ops a.tmps)) : YS P ops S i o v a' := by
  unfold YS at *
  rw [he, hw]
  exact hy
theorem YS.put {i : Nat} {o : Oper} {v u : Value} {a : Act} {dst : Option Tmp} (hs : ∀ cs b, o.op ≠ .select cs b) (h : ∀ d, dst = some d → d ∉ o.looksAt ops) :
    YS P ops S i o v (a.put dst u) ↔ YS P ops S i o v a := by
  constructor
  · exact fun hy => hy.of_same (execOp_put o hs a dst u h).symm (wanted_put o a dst u h).symm
  · exact fun hy => hy.of_same (execOp_put o hs a dst u h) (wanted_put o a dst u h)
def DetS (P : Program) (md : Region.Mode) (ops : Array Oper) (Q : Exit → Act → World → Prop) (S : Array Bool → World → Prop) : Nat → Array Bool → Act → Prop
  | 0, listed, a => Region.ready md ops listed = [] ∧ ∀ w, S listed w → Q .normal a w
  | k + 1, listed, a => (Region.ready md ops listed = [] → ∀ w, S listed w → Q .normal a w) ∧
    ∀ i ∈ Region.ready md ops listed, ∃ o v, ops[i]? = some o ∧ YS P ops S i o v a ∧ DetS P md ops Q S k (listed.setIfInBounds i true) (a.put o.dst v)
theorem YS.wpOp {i : Nat} {o : Oper} {v : Value} {a : Act} {w : World} {listed : Array Bool} (hi : ops[i]? = some o) (hy : YS P ops S i o v a)
    (hl : listed.getD i true = false) (hS : S listed w) {K : Act → World → Prop} (h : ∀ w', S (listed.setIfInBounds i true) w' → K (a.put o.dst v) w') : wpOp P ops Q i K a w := by
  unfold Go.wpOp
  simp only [hi]
  rcases hy with ⟨hw, hv⟩ | ⟨hw, rfl, hk⟩
  · rw [if_pos hw]
    refine .inl ?_
    unfold Oper.wp
    have h9 := hv listed w hl hS
    generalize (execOp a.eval o).run P w = r at *
    unfold RunsTo at h9
    split at h9
    · obtain ⟨rfl, h9⟩ := h9; exact h _ h9
    · obtain ⟨rfl, h9⟩ := h9; exact h _ h9
    · refine Calls.mono h9 fun e w'' he => ?_
      obtain ⟨rfl, he⟩ := he
      exact h _ he
    · exact h9.elim
  · rw [if_neg (by rw [hw]; decide)]
    exact h _ (hk listed w hl hS)
theorem DetS.wpAny : ∀ (k : Nat) (listed : Array Bool) (a : Act) (w : World), DetS P md ops Q S k listed a → S listed w → wpAny P md ops Q k listed a w
  | 0, _, _, w, h, hS => ⟨h.1, h.2 w hS⟩
  | k + 1, listed, a, w, h, hS => ⟨fun h0 => h.1 h0 w hS, fun i hi => by
      obtain ⟨o, v, ho, hy, hn⟩ := h.2 i hi
      exact hy.wpOp ho (mem_ready.1 hi).1 hS fun w' h' => DetS.wpAny k _ _ w' hn h'⟩
theorem DetS.first {i : Nat} {oi : Oper} {v : Value} (hi : ops[i]? = some oi) (hsel : ∀ (j : Nat) (o : Oper) cs b, ops[j]? = some o → o.op ≠ .select cs b) :
    ∀ (k : Nat) (listed : Array Bool) (a : Act),
      (∀ j oj, ops[j]? = some oj → j ≠ i → listed.getD j true = false → (∀ e ∈ oj.after, Region.binds md e = true → e.on ≠ i) → oi.apart ops oj = true) →
      i ∈ Region.ready md ops listed → YS P ops S i oi v a →
      DetS P md ops Q S k (listed.setIfInBounds i true) (a.put oi.dst v) → DetS P md ops Q S (k + 1) listed a := by
  intro k
  induction k with
  | zero =>
    intro listed a _ hr hy H
    refine ⟨fun h => (by rw [h] at hr; cases hr), fun j hj => ?_⟩
    by_cases hji : j = i
    · subst hji; exact ⟨oi, v, hi, hy, H⟩
    · have := ready_mono hj hji
      rw [H.1] at this
      cases this
  | succ k ih =>
    intro listed a hfree hr hy H
    refine ⟨fun h => (by rw [h] at hr; cases hr), fun j hj => ?_⟩
    by_cases hji : j = i
    · subst hji; exact ⟨oi, v, hi, hy, H⟩
    · obtain ⟨oj', u, hoj', hyj, hn⟩ := H.2 j (ready_mono hj hji)
      obtain ⟨hjun, oj, hoj, hall⟩ := mem_ready.1 hj
      have he : oj' = oj := by rw [hoj] at hoj'; exact (Option.some.inj hoj').symm
      subst he
      have hnot : ∀ e ∈ oj'.after, Region.binds md e = true → e.on ≠ i := fun e he hb heq => by
        have h1 := hall e he hb
        have h0 := (mem_ready.1 hr).1
        rw [heq] at h1
        rcases Nat.lt_or_ge i listed.size with h' | h'
        · simp [h'] at h0 h1; rw [h0] at h1; cases h1
        · simp [Array.getElem?_eq_none h'] at h1
      obtain ⟨p1, p2, p3⟩ := Oper.apart_spec (hfree j oj' hoj hji hjun hnot)
      have hfree' : ∀ k ok, ops[k]? = some ok → k ≠ i → (listed.setIfInBounds j true).getD k true = false →
          (∀ e ∈ ok.after, Region.binds md e = true → e.on ≠ i) → oi.apart ops ok = true := fun k ok hk hki hun hno => by
        refine hfree k ok hk hki ?_ hno
        by_cases hjk : j = k
        · subst hjk; exact hjun
        · rw [getD_set_ne true hjk] at hun; exact hun
      refine ⟨oj', u, hoj, (YS.put (hsel j oj' · · hoj) p1).1 hyj, ?_⟩
      refine ih _ _ hfree' (ready_mono hr (Ne.symm hji)) ((YS.put (hsel i oi · · hi) p3).2 hy) ?_
      rw [Array.setIfInBounds_comm _ _ hji, ← Act.put_comm a v u p2]
      exact hn
theorem DetS.take {i : Nat} {oi : Oper} {v : Value} {k : Nat} {listed : Array Bool} {a : Act} (hi : ops[i]? = some oi)
    (hs : Region.noSelect ops = true) (hf : Region.free md ops listed i = true) (hr : (Region.ready md ops listed).contains i = true)
    (hy : YS P ops S i oi v a) (h : DetS P md ops Q S k (listed.setIfInBounds i true) (a.put oi.dst v)) : DetS P md ops Q S (k + 1) listed a :=
  DetS.first hi (Region.noSelect_spec hs) k listed a (Region.free_spec hi hf) (by simpa using hr) hy h
theorem DetS.takeL {l : List Oper} {i : Nat} {oi : Oper} {v : Value} {k : Nat} {listed : Array Bool} {a : Act} (hi : l[i]? = some oi)
    (hs : Region.noSelect l.toArray = true) (hf : Region.free md l.toArray listed i = true) (hr : (Region.ready md l.toArray listed).contains i = true)
    (hy : YS P l.toArray S i oi v a) (h : DetS P md l.toArray Q S k (listed.setIfInBounds i true) (a.put oi.dst v)) : DetS P md l.toArray Q S (k + 1) listed a :=
  DetS.take (by simpa using hi) hs hf hr hy h
theorem DetS.done {listed : Array Bool} {a : Act} (hr : Region.ready md ops listed = []) (h : ∀ w, S listed w → Q .normal a w) : ∀ k, DetS P md ops Q S k listed a
  | 0 => ⟨hr, h⟩
  | _ + 1 => ⟨fun _ => h, by rw [hr]; simp⟩
/-- The beginning. -/
theorem wp_region_det {id : Nat} {a : Act} {w : World} (hm : P.follows .mixedOrders = true) (hS : S (Array.replicate ops.size false) w.drew)
    (h : DetS P .any ops Q S ops.size (Array.replicate ops.size false) a) : (Code.region id ops true).wp P Q a w :=
  wp_region_any hm (DetS.wpAny _ _ _ _ h hS)
theorem wp_region_detN {n : Nat} {id : Nat} {a : Act} {w : World} (hm : P.follows .mixedOrders = true) (hn : ops.size = n) (hS : S (Array.replicate n false) w.drew)
    (h : DetS P .any ops Q S n (Array.replicate n false) a) : (Code.region id ops true).wp P Q a w := by
  subst hn
  exact wp_region_det hm hS h
/-- An operation that yields in every world of S, and leaves that world. -/
theorem YS.pure {i : Nat} {o : Oper} {v : Value} {a : Act} (hw : Region.wanted o (yielded ops a.tmps) = true)
    (hS : ∀ L w, L.getD i true = false → S L w → S (L.setIfInBounds i true) w)
    (hr : ∀ L w, S L w → (execOp a.eval o).run P w = .ok (.value v) w) : YS P ops S i o v a :=
  .inl ⟨hw, fun L w hl h => by rw [hr L w h]; exact ⟨rfl, hS L w hl h⟩⟩
/-- A call. -/
theorem YS.call {i : Nat} {o : Oper} {v : Value} {a : Act} {f : FuncId} {args : Array Value} (hw : Region.wanted o (yielded ops a.tmps) = true)
    (hr : ∀ w, (execOp a.eval o).run P w = .ok (.enter f args) w)
    (hc : ∀ L w, L.getD i true = false → S L w → Calls P f args w fun e w'' => e = .returned v ∧ S (L.setIfInBounds i true) w'') : YS P ops S i o v a :=
  .inl ⟨hw, fun L w hl h => by rw [hr w]; exact hc L w hl h⟩
/-- A store. -/
theorem YS.store {i : Nat} {o : Oper} {a : Act} {f : World → World} (hw : Region.wanted o (yielded ops a.tmps) = true)
    (hr : ∀ L w, L.getD i true = false → S L w → (execOp a.eval o).run P w = .ok .skip (f w) ∧ S (L.setIfInBounds i true) (f w)) : YS P ops S i o undef a :=
  .inl ⟨hw, fun L w hl h => by rw [(hr L w hl h).1]; exact ⟨rfl, (hr L w hl h).2⟩⟩
theorem getD_set_self {L : Array Bool} {i : Nat} (h : L.getD i true = false) : (L.setIfInBounds i true).getD i false = true := by
  have hlt : i < L.size := by
    rcases Nat.lt_or_ge i L.size with h' | h'
    · exact h'
    · simp [Array.getElem?_eq_none h'] at h
  simp [hlt]
theorem getD_un {L : Array Bool} {i : Nat} (h : L.getD i true = false) : L.getD i false = false := by
  rcases Nat.lt_or_ge i L.size with h' | h'
  · simpa [h'] using h
  · simp [Array.getElem?_eq_none h']
end
end Go.Proofs.YtgkphjbcaidcpaaGreatDoor
set_option linter.unusedVariables false
set_option linter.unusedSimpArgs false
namespace Go.Proofs.YtgkphjbcaidcpaaGreatDoor
open Go.RowKit

set_option maxRecDepth 100000
/-- An element in its box. -/
def ElBox (w : World) (b : Nat) (e : Ac.El) : Prop := ∃ A n c, w.heap[b]? = some (.cells #[.string (bs e.kd), .slice A n c] 86 (0, 0)) ∧ RdV w A n e.kd e.vs ∧ n ≤ 4194304 ∧ ∀ v ∈ e.vs, ValOK e.kd v
def Boxes (w : World) (bx : Nat → Nat) (els : List Ac.El) : Prop := ∀ k e, els[k]? = some e → ElBox w (bx k) e
theorem ElBox.step {w w' : World} {b : Nat} {e : Ac.El} (h : ElBox w b e) (hb : Below w.heap.size w w') : ElBox w' b e := by
  obtain ⟨A, n, c, h1, h2, h3, h4⟩ := h
  exact ⟨A, n, c, (hb.block b (Array.getElem?_eq_some_iff.1 h1).1).trans h1, h2.step hb, h3, h4⟩
theorem Boxes.step {w w' : World} {bx : Nat → Nat} {els : List Ac.El} (h : Boxes w bx els) (hb : Below w.heap.size w w') : Boxes w' bx els := fun k e he => (h k e he).step hb
/-- A rule's terms in memory: the element's box and whether it is turned round. -/
def tcells : List (Nat × Bool) → List Value
  | [] => []
  | p :: r => .pointer (some ⟨p.1, 0, none⟩) :: .bool p.2 :: tcells r
theorem tcells_length (l : List (Nat × Bool)) : (tcells l).length = l.length * 2 := by
  induction l with
  | nil => rfl
  | cons p r ih => simp [tcells, ih]; omega
theorem tcells_append (l m : List (Nat × Bool)) : tcells (l ++ m) = tcells l ++ tcells m := by
  induction l with
  | nil => rfl
  | cons p r ih => simp [tcells, ih]
theorem tcells_one (l : List (Nat × Bool)) : ∀ u ∈ tcells l, u.oneCell' = true := by
  induction l with
  | nil => intro u hu; simp [tcells] at hu
  | cons p r ih =>
    intro u hu
    simp only [tcells, List.mem_cons] at hu
    rcases hu with rfl | rfl | hu
    · rfl
    · rfl
    · exact ih u hu
theorem tcells_get (l : List (Nat × Bool)) (k : Nat) (h : k < l.length) : (tcells l)[k * 2]? = some (.pointer (some ⟨l[k].1, 0, none⟩)) ∧ (tcells l)[k * 2 + 1]? = some (.bool l[k].2) := by
  induction l generalizing k with
  | nil => simp at h
  | cons p r ih =>
    cases k with
    | zero => exact ⟨rfl, rfl⟩
    | succ k =>
      rw [show (k + 1) * 2 = k * 2 + 1 + 1 by omega]
      have := ih k (by simpa using h)
      exact ⟨by simpa [tcells] using this.1, by simpa [tcells] using this.2⟩
def RdTm (w : World) (A : Option Addr) (n : Nat) (l : List (Nat × Bool)) : Prop := l.length = n ∧ Rd w 2 A n (tcells l)
theorem RdTm.step {w w' : World} {A : Option Addr} {n : Nat} {l : List (Nat × Bool)} (h : RdTm w A n l) (hb : Below w.heap.size w w') : RdTm w' A n l := ⟨h.1, h.2.step hb⟩
theorem RdTm.at_ {w : World} {A : Option Addr} {n : Nat} {l : List (Nat × Bool)} (h : RdTm w A n l) {k : Nat} (hk : k < n) : ∃ g o p, A = some ⟨g, o, none⟩ ∧ g < w.heap.size ∧ Hid (l[k]? = some p) ∧ w.cell? ⟨g, o + k * 2, none⟩ = some (.pointer (some ⟨p.1, 0, none⟩)) ∧ w.cell? ⟨g, o + k * 2 + 1, none⟩ = some (.bool p.2) := by
  obtain ⟨g, o, e, hg, hc⟩ := h.2.2 (by omega)
  have hk' : k < l.length := by rw [h.1]; exact hk
  have ht := tcells_get l k hk'
  exact ⟨g, o, l[k], e, hg, Lib.hid (List.getElem?_eq_getElem hk'), hc _ _ ht.1, by rw [Nat.add_assoc]; exact hc _ _ ht.2⟩
/-- The terms are those of these names. -/
def TmOK (bx : Nat → Nat) (els : List Ac.El) (pts : List (Nat × Bool)) (ns : List (List UInt8)) : Prop :=
  pts.length = ns.length ∧ ∀ (j : Nat) (p : Nat × Bool) (nm : List UInt8), pts[j]? = some p → ns[j]? = some nm → p.2 = Ac.bang nm ∧ ∃ k e, Ac.atI els (Ac.bare nm) = some k ∧ els[k]? = some e ∧ p.1 = bx k
theorem all_noX {α : Type} (f : α → Bool) {l : List α} {k : Nat} {x : α} (h : l[k]? = some x) (hf : f x = false) : l.all f = false := by
  rw [← Bool.not_eq_true, List.all_eq_true]
  intro ha
  have := ha x (mem_of_get? h)
  rw [hf] at this; cases this
theorem allQ_snoc {α : Type} (f : α → Bool) {l : List α} {k : Nat} {x : α} (h : l[k]? = some x) : (l.take (k + 1)).all f = ((l.take k).all f && f x) := by rw [take_snoc? h, List.all_append]; simp
theorem named_of {L : Ac.LS} {nm : List UInt8} {k : Nat} {e : Ac.El} (h1 : Ac.atI L.els nm = some k) (h2 : L.els[k]? = some e) (a : Ac.Ask) : Ac.named L nm a = Ac.elH e a := by
  unfold Ac.named
  rw [h1]; simp only; rw [h2]
set_option maxHeartbeats 4000000 in
theorem matches_any (L : Ac.LS) (bx : Nat → Nat) (r : Ac.Ru) (pts : List (Nat × Bool)) (A : Option Addr) (n c : Nat) (a : Ac.Ask) (w : World) (hM : MaxL w) (ha : AskOK a) (hB : Boxes w bx L.els) (hT : RdTm w A n pts) (hn : n ≤ 4194304) (hok : TmOK bx L.els pts r.ns) :
    Calls Tryz.prog 23 #[.agg #[.int .i64 (r.ln : Int), .bool r.al, .slice A n c], askV a] w fun x w' => x = .returned (.bool (Ac.ruleM L r a)) ∧ Below w.heap.size w w' := by
  have hal := alloc_below w (.cells #[.int .i64 (r.ln : Int), .bool r.al, .slice A n c] 60)
  have hr0 := heap_alloc_new w (.cells #[.int .i64 (r.ln : Int), .bool r.al, .slice A n c] 60)
  have hal2 := alloc_below (w.alloc (.cells #[.int .i64 (r.ln : Int), .bool r.al, .slice A n c] 60)) (.cells #[.int .i64 a.src, .string (bs a.host), .int .i64 a.port, .string (bs a.meth), .string (bs a.path), .int .i64 a.now] 37)
  have hra := heap_alloc_new (w.alloc (.cells #[.int .i64 (r.ln : Int), .bool r.al, .slice A n c] 60)) (.cells #[.int .i64 a.src, .string (bs a.host), .int .i64 a.port, .string (bs a.meth), .string (bs a.path), .int .i64 a.now] 37)
  rw [show (w.alloc (.cells #[.int .i64 (r.ln : Int), .bool r.al, .slice A n c] 60)).heap.size = w.heap.size + 1 by simp] at hra
  have hr1 : ((w.alloc (.cells #[.int .i64 (r.ln : Int), .bool r.al, .slice A n c] 60)).alloc (.cells #[.int .i64 a.src, .string (bs a.host), .int .i64 a.port, .string (bs a.meth), .string (bs a.path), .int .i64 a.now] 37)).heap[w.heap.size]? = _ := (hal2.block w.heap.size (by simp)).trans hr0
  have hb0 := bnext hal hal2 hal.size
  replace hB := hB.step hb0
  replace hT := hT.step hb0
  have hM1 := maxl_b hM hb0
  have HNM : Hid (∀ (j : Nat) (p : Nat × Bool), pts[j]? = some p → ∃ nm e, r.ns[j]? = some nm ∧ p.2 = Ac.bang nm ∧ Ac.named L (Ac.bare nm) a = Ac.elH e a ∧ ∃ k, L.els[k]? = some e ∧ p.1 = bx k) := Lib.hid fun j p hp => by
    have hj : j < r.ns.length := by rw [← hok.1]; exact lt_of_get? hp
    obtain ⟨h1, k, e, h2, h3, h4⟩ := hok.2 j p r.ns[j] hp (List.getElem?_eq_getElem hj)
    exact ⟨_, e, List.getElem?_eq_getElem hj, h1, named_of h2 h3 a, k, h3, h4⟩
  have HF : Hid (∀ (j : Nat) (nm : List UInt8), r.ns[j]? = some nm → (Ac.named L (Ac.bare nm) a == Ac.bang nm) = true → Ac.ruleM L r a = false) := Lib.hid fun j nm h1 h2 => all_noX _ h1 (by rw [bne, h2]; rfl)
  have HS : Hid (∀ (j : Nat) (nm : List UInt8), r.ns[j]? = some nm → (r.ns.take j).all (fun n => Ac.named L (Ac.bare n) a != Ac.bang n) = true → (Ac.named L (Ac.bare nm) a == Ac.bang nm) = false → (r.ns.take (j + 1)).all (fun n => Ac.named L (Ac.bare n) a != Ac.bang n) = true) := Lib.hid fun j nm h1 h2 h3 => by rw [allQ_snoc _ h1, h2, bne, h3]; rfl
  have HE : Hid ((r.ns.take n).all (fun n => Ac.named L (Ac.bare n) a != Ac.bang n) = true → Ac.ruleM L r a = true) := Lib.hid fun h => by rw [List.take_of_length_le (by rw [← hok.1, hT.1]; exact Nat.le_refl _)] at h; exact h
  clear hok hal hal2 hr0
  have hELH := Lib.hid fun (e : Ac.El) (W : World) (b : Nat) (A : Option Addr) (n c : Nat) (hW : MaxL W) => elH_any b e A n c a W hW ha
  unfold askV at *
  generalize Ac.ruleM L r a = R at *
  go_enter Tryz.func23, Tryz.ntmps23
  go_upto_region 1 with fail
  generalize (w.alloc (.cells #[.int .i64 (r.ln : Int), .bool r.al, .slice A n c] 60)).alloc (.cells #[.int .i64 a.src, .string (bs a.host), .int .i64 a.port, .string (bs a.meth), .string (bs a.path), .int .i64 a.now] 37) = w1 at *
  have c2 : w1.cell? ⟨w.heap.size, 2, none⟩ = some (.slice A n c) := by rw [cell_of_row _ _ _ _ _ _ hr1]; rfl
  have hlt1 : w.heap.size + 1 < w1.heap.size := (Array.getElem?_eq_some_iff.1 hra).1
  go_wp2_with fail
  go_loopw [10] (fun t wr => ∃ k : Nat, k ≤ n ∧ t = .int .i64 (k : Int) ∧ Hid ((r.ns.take k).all (fun n => Ac.named L (Ac.bare n) a != Ac.bang n) = true) ∧ Below w1.heap.size w1 wr) (fun t _ => n - (intOf t).toNat)
  case atStart => exact ⟨0, by omega, rfl, Lib.hid rfl, Below.refl _ _⟩
  case round =>
    obtain ⟨k, hk, rfl, HA, hbr⟩ := hrel
    clear c2
    by_cases hlt : k < n
    · obtain ⟨g, o, p, rfl, hg, HP, hc1, hc2⟩ := (hT.step hbr).at_ hlt
      obtain ⟨nm, e, h1, h2, h3, kk, h4, h5⟩ := HNM.out k p HP.out
      obtain ⟨p1, p2⟩ := p
      dsimp only at hc1 hc2 h2 h5
      subst h5
      have hbx := (hB.step hbr) kk e h4
      have halt := alloc_below wr (.cells #[.pointer (some ⟨bx kk, 0, none⟩), .bool p2] 78)
      have hrt := heap_alloc_new wr (.cells #[.pointer (some ⟨bx kk, 0, none⟩), .bool p2] 78)
      have hraW := ((halt.block (w.heap.size + 1) (by have := hbr.size; omega)).trans (hbr.block (w.heap.size + 1) hlt1)).trans hra
      have hMW := maxl_b (maxl_b hM1 hbr) halt
      replace hbx := hbx.step halt
      have hbr2 := bnext hbr halt hbr.size
      have HF2 := Lib.hid (HF.out k nm h1)
      have HS2 := Lib.hid (HS.out k nm h1 HA.out)
      rw [h3, ← h2] at HF2 HS2
      generalize hee9 : Ac.elH e a = ee at *
      have HEE := Lib.hid hee9
      clear hee9
      clear h2 h1 h3 h4
      go_upto_region 4 with fail
      clear hc1 hc2 HNM HF HS HE HA HP halt
      generalize wr.alloc (.cells #[.pointer (some ⟨bx kk, 0, none⟩), .bool p2] 78) = w4 at *
      generalize wr.heap.size = tb at *
      have HRT : Hid (∀ W, Below w4.heap.size w4 W → W.cell? ⟨tb, 0, none⟩ = some (.pointer (some ⟨bx kk, 0, none⟩)) ∧ W.cell? ⟨tb, 1, none⟩ = some (.bool p2)) := Lib.hid fun W hW => by
        have h9 := (hW.block tb (Array.getElem?_eq_some_iff.1 hrt).1).trans hrt
        exact ⟨by rw [cell_of_row _ _ _ _ _ _ h9]; rfl, by rw [cell_of_row _ _ _ _ _ _ h9]; rfl⟩
      have HRA : Hid (∀ W, Below w4.heap.size w4 W → W.heap[w.heap.size + 1]? = some (.cells #[.int .i64 a.src, .string (bs a.host), .int .i64 a.port, .string (bs a.meth), .string (bs a.path), .int .i64 a.now] 37 (0, 0))) := Lib.hid fun W hW => (hW.block _ (Array.getElem?_eq_some_iff.1 hraW).1).trans hraW
      clear hrt hraW
      refine wp_region_detN (n := 7) (S := fun L W => Below w4.heap.size w4 W) (by kernel_rfl) rfl (below_drewN (Below.refl _ _) 1) ?_
      refine' DetS.takeL (i := 0) (v := _) rfl (by kernel_rfl) (by kernel_rfl) (by kernel_rfl) (YS.pure rfl ?sd4_0 ?rd4_0) ?nd4_0
      case rd4_0 => intro L W hS;  go_simp; first | rfl | (rw [if_neg (by omega)] <;> rfl) | (rw [if_neg (by simp; omega)] <;> rfl) | (rw [if_neg (by simp)] <;> rfl)
      case sd4_0 => exact fun L W _ h => h
      simp only [Act.put, List.setIfInBounds_toArray, List.set_cons_zero, List.set_cons_succ]
      refine' DetS.takeL (i := 1) (v := _) rfl (by kernel_rfl) (by kernel_rfl) (by kernel_rfl) (YS.pure rfl ?sd4_1 ?rd4_1) ?nd4_1
      case rd4_1 => intro L W hS; obtain ⟨k0, k1⟩ := HRT.out W hS; go_simp; first | rfl | skip
      case sd4_1 => exact fun L W _ h => h
      simp only [Act.put, List.setIfInBounds_toArray, List.set_cons_zero, List.set_cons_succ]
      refine' DetS.takeL (i := 2) (v := _) rfl (by kernel_rfl) (by kernel_rfl) (by kernel_rfl) (YS.pure rfl ?sd4_2 ?rd4_2) ?nd4_2
      case rd4_2 => intro L W hS; obtain ⟨k0, k1, k2, k3, k4, k5⟩ := row_facts6 (HRA.out W hS); go_simp; first | rfl | skip
      case sd4_2 => exact fun L W _ h => h
      simp only [Act.put, List.setIfInBounds_toArray, List.set_cons_zero, List.set_cons_succ]
      refine' DetS.takeL (i := 3) (v := _) rfl (by kernel_rfl) (by kernel_rfl) (by kernel_rfl) (YS.call (f := _) (args := _) rfl ?rd4_3 ?cd4_3) ?nd4_3
      case rd4_3 => intro W; go_simp; constructor <;> rfl
      case cd4_3 =>
        intro L W hL hS
        obtain ⟨Ae, ne, ce, e1, e2, e3, e4⟩ := hbx.step hS
        refine (hELH.out e W (bx kk) Ae ne ce (maxl_b hMW hS) e1 e2 e3 e4).mono ?_
        rintro x w9 ⟨rfl, hb9⟩
        exact ⟨by rw [HEE.out], bnext hS hb9 hS.size⟩
      simp only [Act.put, List.setIfInBounds_toArray, List.set_cons_zero, List.set_cons_succ]
      refine' DetS.takeL (i := 4) (v := _) rfl (by kernel_rfl) (by kernel_rfl) (by kernel_rfl) (YS.pure rfl ?sd4_4 ?rd4_4) ?nd4_4
      case rd4_4 => intro L W hS;  go_simp; first | rfl | (rw [if_neg (by omega)] <;> rfl) | (rw [if_neg (by simp; omega)] <;> rfl) | (rw [if_neg (by simp)] <;> rfl)
      case sd4_4 => exact fun L W _ h => h
      simp only [Act.put, List.setIfInBounds_toArray, List.set_cons_zero, List.set_cons_succ]
      refine' DetS.takeL (i := 5) (v := _) rfl (by kernel_rfl) (by kernel_rfl) (by kernel_rfl) (YS.pure rfl ?sd4_5 ?rd4_5) ?nd4_5
      case rd4_5 => intro L W hS; obtain ⟨k0, k1⟩ := HRT.out W hS; go_simp; first | rfl | skip
      case sd4_5 => exact fun L W _ h => h
      simp only [Act.put, List.setIfInBounds_toArray, List.set_cons_zero, List.set_cons_succ]
      refine' DetS.takeL (i := 6) (v := _) rfl (by kernel_rfl) (by kernel_rfl) (by kernel_rfl) (YS.pure rfl ?sd4_6 ?rd4_6) ?nd4_6
      case rd4_6 => intro L W hS;  go_simp; first | rfl | (rw [if_neg (by omega)] <;> rfl) | (rw [if_neg (by simp; omega)] <;> rfl) | (rw [if_neg (by simp)] <;> rfl)
      case sd4_6 => exact fun L W _ h => h
      simp only [Act.put, List.setIfInBounds_toArray, List.set_cons_zero, List.set_cons_succ]
      refine DetS.done (by kernel_rfl) (fun W hS => ?_) _
      have hbrW := bnext hbr2 hS hbr2.size
      cases hee : (ee == p2) with
      | true =>
        have HR := Lib.hid (HF2.out hee)
        clear HF2 HS2
        go_wp2
        go_ret
        exact ⟨by rw [HR.out]; rfl, bnext hb0 hbrW hb0.size⟩
      | false =>
        have HS3 := Lib.hid (HS2.out hee)
        clear HF2 HS2
        go_wp2
        go_roundw
        case rel => exact ⟨k + 1, by omega, by go_num, HS3, hbrW⟩
        case measure => simp [intOf]; omega
    · obtain rfl : k = n := by omega
      have HR := Lib.hid (HE.out HA.out)
      clear HNM HF HS HE HA
      go_wp2
      go_ret
      exact ⟨by rw [HR.out]; rfl, bnext hb0 hbr hb0.size⟩
end Go.Proofs.YtgkphjbcaidcpaaGreatDoor
