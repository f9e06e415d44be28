/- Joined texts: A rule's matches; Decide; The table of parsers: a map of functions. The conditions stand in each line. -/
import Derived.Test.YtgkphjbcaidcpaaGreatDoorM10
import Derived.Maps.Own
import Derived.Maps.OwnSet
import Derived.Maps.Views
set_option linter.unusedVariables false
set_option linter.unusedSimpArgs false
namespace Go.Proofs.YtgkphjbcaidcpaaGreatDoor
open Go.RowKit

set_option maxRecDepth 100000
/-- An element in its box. -/
def ElBox (w : World) (b : Nat) (e : Ac.El) : Prop := ∃ A n c, w.heap[b]? = some (.cells #[.string (bs e.kd), .slice A n c] 86 (0, 0)) ∧ RdV w A n e.kd e.vs ∧ n ≤ 4194304 ∧ ∀ v ∈ e.vs, ValOK e.kd v
def Boxes (w : World) (bx : Nat → Nat) (els : List Ac.El) : Prop := ∀ k e, els[k]? = some e → ElBox w (bx k) e
theorem ElBox.step {w w' : World} {b : Nat} {e : Ac.El} (h : ElBox w b e) (hb : Below w.heap.size w w') : ElBox w' b e := by
  obtain ⟨A, n, c, h1, h2, h3, h4⟩ := h
  exact ⟨A, n, c, (hb.block b (Array.getElem?_eq_some_iff.1 h1).1).trans h1, h2.step hb, h3, h4⟩
theorem Boxes.step {w w' : World} {bx : Nat → Nat} {els : List Ac.El} (h : Boxes w bx els) (hb : Below w.heap.size w w') : Boxes w' bx els := fun k e he => (h k e he).step hb
/-- A rule's terms in memory: the element's box and whether it is turned round. -/
def tcells : List (Nat × Bool) → List Value
  | [] => []
  | p :: r => .pointer (some ⟨p.1, 0, none⟩) :: .bool p.2 :: tcells r
theorem tcells_length (l : List (Nat × Bool)) : (tcells l).length = l.length * 2 := by
  induction l with
  | nil => rfl
  | cons p r ih => simp [tcells, ih]; omega
theorem tcells_append (l m : List (Nat × Bool)) : tcells (l ++ m) = tcells l ++ tcells m := by
  induction l with
  | nil => rfl
  | cons p r ih => simp [tcells, ih]
theorem tcells_one (l : List (Nat × Bool)) : ∀ u ∈ tcells l, u.oneCell' = true := by
  induction l with
  | nil => intro u hu; simp [tcells] at hu
  | cons p r ih =>
    intro u hu
    simp only [tcells, List.mem_cons] at hu
    rcases hu with rfl | rfl | hu
    · rfl
    · rfl
    · exact ih u hu
theorem tcells_get (l : List (Nat × Bool)) (k : Nat) (h : k < l.length) : (tcells l)[k * 2]? = some (.pointer (some ⟨l[k].1, 0, none⟩)) ∧ (tcells l)[k * 2 + 1]? = some (.bool l[k].2) := by
  induction l generalizing k with
  | nil => simp at h
  | cons p r ih =>
    cases k with
    | zero => exact ⟨rfl, rfl⟩
    | succ k =>
      rw [show (k + 1) * 2 = k * 2 + 1 + 1 by omega]
      have := ih k (by simpa using h)
      exact ⟨by simpa [tcells] using this.1, by simpa [tcells] using this.2⟩
def RdTm (w : World) (A : Option Addr) (n : Nat) (l : List (Nat × Bool)) : Prop := l.length = n ∧ Rd w 2 A n (tcells l)
theorem RdTm.step {w w' : World} {A : Option Addr} {n : Nat} {l : List (Nat × Bool)} (h : RdTm w A n l) (hb : Below w.heap.size w w') : RdTm w' A n l := ⟨h.1, h.2.step hb⟩
theorem RdTm.at_ {w : World} {A : Option Addr} {n : Nat} {l : List (Nat × Bool)} (h : RdTm w A n l) {k : Nat} (hk : k < n) : ∃ g o p, A = some ⟨g, o, none⟩ ∧ g < w.heap.size ∧ Hid (l[k]? = some p) ∧ w.cell? ⟨g, o + k * 2, none⟩ = some (.pointer (some ⟨p.1, 0, none⟩)) ∧ w.cell? ⟨g, o + k * 2 + 1, none⟩ = some (.bool p.2) := by
  obtain ⟨g, o, e, hg, hc⟩ := h.2.2 (by omega)
  have hk' : k < l.length := by rw [h.1]; exact hk
  have ht := tcells_get l k hk'
  exact ⟨g, o, l[k], e, hg, Lib.hid (List.getElem?_eq_getElem hk'), hc _ _ ht.1, by rw [Nat.add_assoc]; exact hc _ _ ht.2⟩
/-- The terms are those of these names. -/
def TmOK (bx : Nat → Nat) (els : List Ac.El) (pts : List (Nat × Bool)) (ns : List (List UInt8)) : Prop :=
  pts.length = ns.length ∧ ∀ (j : Nat) (p : Nat × Bool) (nm : List UInt8), pts[j]? = some p → ns[j]? = some nm → p.2 = Ac.bang nm ∧ ∃ k e, Ac.atI els (Ac.bare nm) = some k ∧ els[k]? = some e ∧ p.1 = bx k
theorem all_noX {α : Type} (f : α → Bool) {l : List α} {k : Nat} {x : α} (h : l[k]? = some x) (hf : f x = false) : l.all f = false := by
  rw [← Bool.not_eq_true, List.all_eq_true]
  intro ha
  have := ha x (mem_of_get? h)
  rw [hf] at this; cases this
theorem allQ_snoc {α : Type} (f : α → Bool) {l : List α} {k : Nat} {x : α} (h : l[k]? = some x) : (l.take (k + 1)).all f = ((l.take k).all f && f x) := by rw [take_snoc? h, List.all_append]; simp
theorem named_of {L : Ac.LS} {nm : List UInt8} {k : Nat} {e : Ac.El} (h1 : Ac.atI L.els nm = some k) (h2 : L.els[k]? = some e) (a : Ac.Ask) : Ac.named L nm a = Ac.elH e a := by
  unfold Ac.named
  rw [h1]; simp only; rw [h2]
set_option maxHeartbeats 4000000 in
theorem matches_any (L : Ac.LS) (bx : Nat → Nat) (r : Ac.Ru) (pts : List (Nat × Bool)) (A : Option Addr) (n c : Nat) (a : Ac.Ask) (w : World) (hM : MaxL w) (ha : AskOK a) (hB : Boxes w bx L.els) (hT : RdTm w A n pts) (hn : n ≤ 4194304) (hok : TmOK bx L.els pts r.ns) :
    Calls Tryz.prog 23 #[.agg #[.int .i64 (r.ln : Int), .bool r.al, .slice A n c], askV a] w fun x w' => x = .returned (.bool (Ac.ruleM L r a)) ∧ Below w.heap.size w w' := by
  have hal := alloc_below w (.cells #[.int .i64 (r.ln : Int), .bool r.al, .slice A n c] 60)
  have hr0 := heap_alloc_new w (.cells #[.int .i64 (r.ln : Int), .bool r.al, .slice A n c] 60)
  have hal2 := alloc_below (w.alloc (.cells #[.int .i64 (r.ln : Int), .bool r.al, .slice A n c] 60)) (.cells #[.int .i64 a.src, .string (bs a.host), .int .i64 a.port, .string (bs a.meth), .string (bs a.path), .int .i64 a.now] 37)
  have hra := heap_alloc_new (w.alloc (.cells #[.int .i64 (r.ln : Int), .bool r.al, .slice A n c] 60)) (.cells #[.int .i64 a.src, .string (bs a.host), .int .i64 a.port, .string (bs a.meth), .string (bs a.path), .int .i64 a.now] 37)
  rw [show (w.alloc (.cells #[.int .i64 (r.ln : Int), .bool r.al, .slice A n c] 60)).heap.size = w.heap.size + 1 by simp] at hra
  have hr1 : ((w.alloc (.cells #[.int .i64 (r.ln : Int), .bool r.al, .slice A n c] 60)).alloc (.cells #[.int .i64 a.src, .string (bs a.host), .int .i64 a.port, .string (bs a.meth), .string (bs a.path), .int .i64 a.now] 37)).heap[w.heap.size]? = _ := (hal2.block w.heap.size (by simp)).trans hr0
  have hb0 := bnext hal hal2 hal.size
  replace hB := hB.step hb0
  replace hT := hT.step hb0
  have hM1 := maxl_b hM hb0
  have HNM : Hid (∀ (j : Nat) (p : Nat × Bool), pts[j]? = some p → ∃ nm e, r.ns[j]? = some nm ∧ p.2 = Ac.bang nm ∧ Ac.named L (Ac.bare nm) a = Ac.elH e a ∧ ∃ k, L.els[k]? = some e ∧ p.1 = bx k) := Lib.hid fun j p hp => by
    have hj : j < r.ns.length := by rw [← hok.1]; exact lt_of_get? hp
    obtain ⟨h1, k, e, h2, h3, h4⟩ := hok.2 j p r.ns[j] hp (List.getElem?_eq_getElem hj)
    exact ⟨_, e, List.getElem?_eq_getElem hj, h1, named_of h2 h3 a, k, h3, h4⟩
  have HF : Hid (∀ (j : Nat) (nm : List UInt8), r.ns[j]? = some nm → (Ac.named L (Ac.bare nm) a == Ac.bang nm) = true → Ac.ruleM L r a = false) := Lib.hid fun j nm h1 h2 => all_noX _ h1 (by rw [bne, h2]; rfl)
  have HS : Hid (∀ (j : Nat) (nm : List UInt8), r.ns[j]? = some nm → (r.ns.take j).all (fun n => Ac.named L (Ac.bare n) a != Ac.bang n) = true → (Ac.named L (Ac.bare nm) a == Ac.bang nm) = false → (r.ns.take (j + 1)).all (fun n => Ac.named L (Ac.bare n) a != Ac.bang n) = true) := Lib.hid fun j nm h1 h2 h3 => by rw [allQ_snoc _ h1, h2, bne, h3]; rfl
  have HE : Hid ((r.ns.take n).all (fun n => Ac.named L (Ac.bare n) a != Ac.bang n) = true → Ac.ruleM L r a = true) := Lib.hid fun h => by rw [List.take_of_length_le (by rw [← hok.1, hT.1]; exact Nat.le_refl _)] at h; exact h
  clear hok hal hal2 hr0
  have hELH := Lib.hid fun (e : Ac.El) (W : World) (b : Nat) (A : Option Addr) (n c : Nat) (hW : MaxL W) => elH_any b e A n c a W hW ha
  unfold askV at *
  generalize Ac.ruleM L r a = R at *
  go_enter Tryz.func23, Tryz.ntmps23
  go_upto_region 1 with fail
  generalize (w.alloc (.cells #[.int .i64 (r.ln : Int), .bool r.al, .slice A n c] 60)).alloc (.cells #[.int .i64 a.src, .string (bs a.host), .int .i64 a.port, .string (bs a.meth), .string (bs a.path), .int .i64 a.now] 37) = w1 at *
  have c2 : w1.cell? ⟨w.heap.size, 2, none⟩ = some (.slice A n c) := by rw [cell_of_row _ _ _ _ _ _ hr1]; rfl
  have hlt1 : w.heap.size + 1 < w1.heap.size := (Array.getElem?_eq_some_iff.1 hra).1
  go_wp2_with fail
  go_loopw [10] (fun t wr => ∃ k : Nat, k ≤ n ∧ t = .int .i64 (k : Int) ∧ Hid ((r.ns.take k).all (fun n => Ac.named L (Ac.bare n) a != Ac.bang n) = true) ∧ Below w1.heap.size w1 wr) (fun t _ => n - (intOf t).toNat)
  case atStart => exact ⟨0, by omega, rfl, Lib.hid rfl, Below.refl _ _⟩
  case round =>
    obtain ⟨k, hk, rfl, HA, hbr⟩ := hrel
    clear c2
    by_cases hlt : k < n
    · obtain ⟨g, o, p, rfl, hg, HP, hc1, hc2⟩ := (hT.step hbr).at_ hlt
      obtain ⟨nm, e, h1, h2, h3, kk, h4, h5⟩ := HNM.out k p HP.out
      obtain ⟨p1, p2⟩ := p
      dsimp only at hc1 hc2 h2 h5
      subst h5
      have hbx := (hB.step hbr) kk e h4
      have halt := alloc_below wr (.cells #[.pointer (some ⟨bx kk, 0, none⟩), .bool p2] 78)
      have hrt := heap_alloc_new wr (.cells #[.pointer (some ⟨bx kk, 0, none⟩), .bool p2] 78)
      have hraW := ((halt.block (w.heap.size + 1) (by have := hbr.size; omega)).trans (hbr.block (w.heap.size + 1) hlt1)).trans hra
      have hMW := maxl_b (maxl_b hM1 hbr) halt
      replace hbx := hbx.step halt
      have hbr2 := bnext hbr halt hbr.size
      have HF2 := Lib.hid (HF.out k nm h1)
      have HS2 := Lib.hid (HS.out k nm h1 HA.out)
      rw [h3, ← h2] at HF2 HS2
      generalize hee9 : Ac.elH e a = ee at *
      have HEE := Lib.hid hee9
      clear hee9
      clear h2 h1 h3 h4
      go_upto_region 4 with fail
      clear hc1 hc2 HNM HF HS HE HA HP halt
      generalize wr.alloc (.cells #[.pointer (some ⟨bx kk, 0, none⟩), .bool p2] 78) = w4 at *
      generalize wr.heap.size = tb at *
      have HRT : Hid (∀ W, Below w4.heap.size w4 W → W.cell? ⟨tb, 0, none⟩ = some (.pointer (some ⟨bx kk, 0, none⟩)) ∧ W.cell? ⟨tb, 1, none⟩ = some (.bool p2)) := Lib.hid fun W hW => by
        have h9 := (hW.block tb (Array.getElem?_eq_some_iff.1 hrt).1).trans hrt
        exact ⟨by rw [cell_of_row _ _ _ _ _ _ h9]; rfl, by rw [cell_of_row _ _ _ _ _ _ h9]; rfl⟩
      have HRA : Hid (∀ W, Below w4.heap.size w4 W → W.heap[w.heap.size + 1]? = some (.cells #[.int .i64 a.src, .string (bs a.host), .int .i64 a.port, .string (bs a.meth), .string (bs a.path), .int .i64 a.now] 37 (0, 0))) := Lib.hid fun W hW => (hW.block _ (Array.getElem?_eq_some_iff.1 hraW).1).trans hraW
      clear hrt hraW
      refine wp_region_detN (n := 7) (S := fun L W => Below w4.heap.size w4 W) (by kernel_rfl) rfl (below_drewN (Below.refl _ _) 1) ?_
      refine' DetS.takeL (i := 0) (v := _) rfl (by kernel_rfl) (by kernel_rfl) (by kernel_rfl) (YS.pure rfl ?sd4_0 ?rd4_0) ?nd4_0
      case rd4_0 => intro L W hS;  go_simp; first | rfl | (rw [if_neg (by omega)] <;> rfl) | (rw [if_neg (by simp; omega)] <;> rfl) | (rw [if_neg (by simp)] <;> rfl)
      case sd4_0 => exact fun L W _ h => h
      simp only [Act.put, List.setIfInBounds_toArray, List.set_cons_zero, List.set_cons_succ]
      refine' DetS.takeL (i := 1) (v := _) rfl (by kernel_rfl) (by kernel_rfl) (by kernel_rfl) (YS.pure rfl ?sd4_1 ?rd4_1) ?nd4_1
      case rd4_1 => intro L W hS; obtain ⟨k0, k1⟩ := HRT.out W hS; go_simp; first | rfl | skip
      case sd4_1 => exact fun L W _ h => h
      simp only [Act.put, List.setIfInBounds_toArray, List.set_cons_zero, List.set_cons_succ]
      refine' DetS.takeL (i := 2) (v := _) rfl (by kernel_rfl) (by kernel_rfl) (by kernel_rfl) (YS.pure rfl ?sd4_2 ?rd4_2) ?nd4_2
      case rd4_2 => intro L W hS; obtain ⟨k0, k1, k2, k3, k4, k5⟩ := row_facts6 (HRA.out W hS); go_simp; first | rfl | skip
      case sd4_2 => exact fun L W _ h => h
      simp only [Act.put, List.setIfInBounds_toArray, List.set_cons_zero, List.set_cons_succ]
      refine' DetS.takeL (i := 3) (v := _) rfl (by kernel_rfl) (by kernel_rfl) (by kernel_rfl) (YS.call (f := _) (args := _) rfl ?rd4_3 ?cd4_3) ?nd4_3
      case rd4_3 => intro W; go_simp; constructor <;> rfl
      case cd4_3 =>
        intro L W hL hS
        obtain ⟨Ae, ne, ce, e1, e2, e3, e4⟩ := hbx.step hS
        refine (hELH.out e W (bx kk) Ae ne ce (maxl_b hMW hS) e1 e2 e3 e4).mono ?_
        rintro x w9 ⟨rfl, hb9⟩
        exact ⟨by rw [HEE.out], bnext hS hb9 hS.size⟩
      simp only [Act.put, List.setIfInBounds_toArray, List.set_cons_zero, List.set_cons_succ]
      refine' DetS.takeL (i := 4) (v := _) rfl (by kernel_rfl) (by kernel_rfl) (by kernel_rfl) (YS.pure rfl ?sd4_4 ?rd4_4) ?nd4_4
      case rd4_4 => intro L W hS;  go_simp; first | rfl | (rw [if_neg (by omega)] <;> rfl) | (rw [if_neg (by simp; omega)] <;> rfl) | (rw [if_neg (by simp)] <;> rfl)
      case sd4_4 => exact fun L W _ h => h
      simp only [Act.put, List.setIfInBounds_toArray, List.set_cons_zero, List.set_cons_succ]
      refine' DetS.takeL (i := 5) (v := _) rfl (by kernel_rfl) (by kernel_rfl) (by kernel_rfl) (YS.pure rfl ?sd4_5 ?rd4_5) ?nd4_5
      case rd4_5 => intro L W hS; obtain ⟨k0, k1⟩ := HRT.out W hS; go_simp; first | rfl | skip
      case sd4_5 => exact fun L W _ h => h
      simp only [Act.put, List.setIfInBounds_toArray, List.set_cons_zero, List.set_cons_succ]
      refine' DetS.takeL (i := 6) (v := _) rfl (by kernel_rfl) (by kernel_rfl) (by kernel_rfl) (YS.pure rfl ?sd4_6 ?rd4_6) ?nd4_6
      case rd4_6 => intro L W hS;  go_simp; first | rfl | (rw [if_neg (by omega)] <;> rfl) | (rw [if_neg (by simp; omega)] <;> rfl) | (rw [if_neg (by simp)] <;> rfl)
      case sd4_6 => exact fun L W _ h => h
      simp only [Act.put, List.setIfInBounds_toArray, List.set_cons_zero, List.set_cons_succ]
      refine DetS.done (by kernel_rfl) (fun W hS => ?_) _
      have hbrW := bnext hbr2 hS hbr2.size
      cases hee : (ee == p2) with
      | true =>
        have HR := Lib.hid (HF2.out hee)
        clear HF2 HS2
        go_wp2
        go_ret
        exact ⟨by rw [HR.out]; rfl, bnext hb0 hbrW hb0.size⟩
      | false =>
        have HS3 := Lib.hid (HS2.out hee)
        clear HF2 HS2
        go_wp2
        go_roundw
        case rel => exact ⟨k + 1, by omega, by go_num, HS3, hbrW⟩
        case measure => simp [intOf]; omega
    · obtain rfl : k = n := by omega
      have HR := Lib.hid (HE.out HA.out)
      clear HNM HF HS HE HA
      go_wp2
      go_ret
      exact ⟨by rw [HR.out]; rfl, bnext hb0 hbr hb0.size⟩
end Go.Proofs.YtgkphjbcaidcpaaGreatDoor
set_option linter.unusedVariables false
set_option linter.unusedSimpArgs false
namespace Go.Proofs.YtgkphjbcaidcpaaGreatDoor
open Go.RowKit

set_option maxRecDepth 100000
/-- A rule as the program keeps it. -/
structure PRu where
  ln : Nat
  al : Bool
  A : Option Addr
  n : Nat
  c : Nat
def rcells : List PRu → List Value
  | [] => []
  | p :: r => .int .i64 (p.ln : Int) :: .bool p.al :: .slice p.A p.n p.c :: rcells r
theorem rcells_length (l : List PRu) : (rcells l).length = l.length * 3 := by
  induction l with
  | nil => rfl
  | cons p r ih => simp [rcells, ih]; omega
theorem rcells_append (l m : List PRu) : rcells (l ++ m) = rcells l ++ rcells m := by
  induction l with
  | nil => rfl
  | cons p r ih => simp [rcells, ih]
theorem rcells_one (l : List PRu) : ∀ u ∈ rcells l, u.oneCell' = true := by
  induction l with
  | nil => intro u hu; simp [rcells] at hu
  | cons p r ih =>
    intro u hu
    simp only [rcells, List.mem_cons] at hu
    rcases hu with rfl | rfl | rfl | hu
    · rfl
    · rfl
    · rfl
    · exact ih u hu
theorem rcells_get (l : List PRu) (k : Nat) (h : k < l.length) : (rcells l)[k * 3]? = some (.int .i64 (l[k].ln : Int)) ∧ (rcells l)[k * 3 + 1]? = some (.bool l[k].al) ∧ (rcells l)[k * 3 + 2]? = some (.slice l[k].A l[k].n l[k].c) := by
  induction l generalizing k with
  | nil => simp at h
  | cons p r ih =>
    cases k with
    | zero => exact ⟨rfl, rfl, rfl⟩
    | succ k =>
      have := ih k (by simpa using h)
      rw [show (k + 1) * 3 = k * 3 + 1 + 1 + 1 by omega]
      exact ⟨by simpa [rcells] using this.1, by simpa [rcells] using this.2.1, by simpa [rcells] using this.2.2⟩
def RdR (w : World) (A : Option Addr) (n : Nat) (l : List PRu) : Prop := l.length = n ∧ Rd w 3 A n (rcells l)
theorem RdR.step {w w' : World} {A : Option Addr} {n : Nat} {l : List PRu} (h : RdR w A n l) (hb : Below w.heap.size w w') : RdR w' A n l := ⟨h.1, h.2.step hb⟩
theorem RdR.at_ {w : World} {A : Option Addr} {n : Nat} {l : List PRu} (h : RdR w A n l) {k : Nat} (hk : k < n) : ∃ g o p, A = some ⟨g, o, none⟩ ∧ g < w.heap.size ∧ Hid (l[k]? = some p) ∧ w.cell? ⟨g, o + k * 3, none⟩ = some (.int .i64 (p.ln : Int)) ∧ w.cell? ⟨g, o + k * 3 + 1, none⟩ = some (.bool p.al) ∧ w.cell? ⟨g, o + k * 3 + 2, none⟩ = some (.slice p.A p.n p.c) := by
  obtain ⟨g, o, e, hg, hc⟩ := h.2.2 (by omega)
  have hk' : k < l.length := by rw [h.1]; exact hk
  have ht := rcells_get l k hk'
  exact ⟨g, o, l[k], e, hg, Lib.hid (List.getElem?_eq_getElem hk'), hc _ _ ht.1, by rw [Nat.add_assoc]; exact hc _ _ ht.2.1, by rw [Nat.add_assoc]; exact hc _ _ ht.2.2⟩
/-- The rules in memory are these. -/
def RuOK (w : World) (bx : Nat → Nat) (els : List Ac.El) (prs : List PRu) (rus : List Ac.Ru) : Prop :=
  prs.length = rus.length ∧ ∀ (i : Nat) (p : PRu) (r : Ac.Ru), prs[i]? = some p → rus[i]? = some r → p.ln = r.ln ∧ p.al = r.al ∧ p.n ≤ 4194304 ∧ ∃ pts, RdTm w p.A p.n pts ∧ TmOK bx els pts r.ns
theorem RuOK.step {w w' : World} {bx : Nat → Nat} {els : List Ac.El} {prs : List PRu} {rus : List Ac.Ru} (h : RuOK w bx els prs rus) (hb : Below w.heap.size w w') : RuOK w' bx els prs rus :=
  ⟨h.1, fun i p r h1 h2 => by obtain ⟨k1, k2, k3, pts, k4, k5⟩ := h.2 i p r h1 h2; exact ⟨k1, k2, k3, pts, k4.step hb, k5⟩⟩
/-- A list that is only read. -/
def PList (w : World) (g : Nat) (L : Ac.LS) : Prop := ∃ bx mv R rn rc prs, w.heap[g]? = some (.cells #[mv, .slice R rn rc] 50 (0, 0)) ∧ RdR w R rn prs ∧ rn ≤ 4194304 ∧ RuOK w bx L.els prs L.rus ∧ Boxes w bx L.els
theorem PList.step {w w' : World} {g : Nat} {L : Ac.LS} (h : PList w g L) (hb : Below w.heap.size w w') : PList w' g L := by
  obtain ⟨bx, mv, R, rn, rc, prs, h1, h2, h3, h4, h5⟩ := h
  exact ⟨bx, mv, R, rn, rc, prs, (hb.block g (Array.getElem?_eq_some_iff.1 h1).1).trans h1, h2.step hb, h3, h4.step hb, h5.step hb⟩
theorem find_noX {α : Type} (f : α → Bool) {l : List α} {k : Nat} {x : α} (h : l[k]? = some x) (h0 : (l.take k).find? f = none) (hf : f x = true) : l.find? f = some x := by
  obtain ⟨hk, rfl⟩ := List.getElem?_eq_some_iff.1 h
  conv => lhs; rw [← List.take_append_drop k l, List.drop_eq_getElem_cons hk]
  rw [List.find?_append, h0, List.find?_cons_of_pos hf]; rfl
theorem findQ_snoc {α : Type} (f : α → Bool) {l : List α} {k : Nat} {x : α} (h : l[k]? = some x) (h0 : (l.take k).find? f = none) (hf : f x = false) : (l.take (k + 1)).find? f = none := by
  rw [take_snoc? h, List.find?_append, h0, List.find?_cons_of_neg (by simp [hf])]; rfl
def decV (L : Ac.LS) (a : Ac.Ask) : Value := .tuple #[.bool (Ac.decide_ L a).1, .int .i64 ((Ac.decide_ L a).2 : Int)]
set_option maxHeartbeats 4000000 in
theorem decide_any (g : Nat) (L : Ac.LS) (a : Ac.Ask) (w : World) (hM : MaxL w) (ha : AskOK a) (hP : PList w g L) :
    Calls Tryz.prog 10 #[.pointer (some ⟨g, 0, none⟩), askV a] w fun x w' => x = .returned (decV L a) ∧ Below w.heap.size w w' := by
  obtain ⟨bx, mv, Ra, rn, rc, prs, hg, hR, hrn, hRu, hB⟩ := hP
  have hgl : g < w.heap.size := (Array.getElem?_eq_some_iff.1 hg).1
  have hal := alloc_below w (.cells #[.int .i64 a.src, .string (bs a.host), .int .i64 a.port, .string (bs a.meth), .string (bs a.path), .int .i64 a.now] 37)
  have hra := heap_alloc_new w (.cells #[.int .i64 a.src, .string (bs a.host), .int .i64 a.port, .string (bs a.meth), .string (bs a.path), .int .i64 a.now] 37)
  have hg1 : (w.alloc (.cells #[.int .i64 a.src, .string (bs a.host), .int .i64 a.port, .string (bs a.meth), .string (bs a.path), .int .i64 a.now] 37)).heap[g]? = _ := (hal.block g hgl).trans hg
  replace hR := hR.step hal
  replace hRu := hRu.step hal
  replace hB := hB.step hal
  have hM1 := maxl_b hM hal
  have hlr : prs.length = L.rus.length := hRu.1
  have HNM : Hid (∀ (j : Nat) (p : PRu), prs[j]? = some p → ∃ r, L.rus[j]? = some r) := Lib.hid fun j p hp => ⟨_, List.getElem?_eq_getElem (by rw [← hlr]; exact lt_of_get? hp)⟩
  have HF : Hid (∀ (j : Nat) (r : Ac.Ru), L.rus[j]? = some r → (L.rus.take j).find? (fun r => Ac.ruleM L r a) = none → Ac.ruleM L r a = true → decV L a = .tuple #[.bool r.al, .int .i64 (r.ln : Int)]) := Lib.hid fun j r h1 h2 h3 => by
    have h4 := find_noX _ h1 h2 h3
    unfold decV Ac.decide_
    rw [h4]
  have HS : Hid (∀ (j : Nat) (r : Ac.Ru), L.rus[j]? = some r → (L.rus.take j).find? (fun r => Ac.ruleM L r a) = none → Ac.ruleM L r a = false → (L.rus.take (j + 1)).find? (fun r => Ac.ruleM L r a) = none) := Lib.hid fun j r h1 h2 h3 => findQ_snoc _ h1 h2 h3
  have HE : Hid ((L.rus.take rn).find? (fun r => Ac.ruleM L r a) = none → decV L a = .tuple #[.bool (decide (rn = 0)), .int .i64 0]) := Lib.hid fun h => by
    rw [List.take_of_length_le (by rw [← hlr, hR.1]; exact Nat.le_refl _)] at h
    unfold decV Ac.decide_
    rw [h]
    have he : L.rus.isEmpty = decide (rn = 0) := by
      rw [← hR.1, hlr]
      cases L.rus <;> simp
    simp only
    rw [he]; rfl
  have hMT := Lib.hid fun r pts (A : Option Addr) (n c : Nat) (W : World) (hW : MaxL W) hBW hT hn hok => matches_any L bx r pts A n c a W hW ha hBW hT hn hok
  unfold askV at *
  generalize decV L a = R at *
  clear hg hlr
  go_enter Tryz.func10, Tryz.ntmps10
  go_upto_region 1 with fail
  generalize w.alloc (.cells #[.int .i64 a.src, .string (bs a.host), .int .i64 a.port, .string (bs a.meth), .string (bs a.path), .int .i64 a.now] 37) = w1 at *
  have c1 : w1.cell? ⟨g, 1, none⟩ = some (.slice Ra rn rc) := by rw [cell_of_row _ _ _ _ _ _ hg1]; rfl
  have hz1 : w.heap.size < w1.heap.size := (Array.getElem?_eq_some_iff.1 hra).1
  have hgl1 : g < w1.heap.size := (Array.getElem?_eq_some_iff.1 hg1).1
  go_wp2_with fail
  go_loopw [13] (fun t wr => ∃ k : Nat, k ≤ rn ∧ t = .int .i64 (k : Int) ∧ Hid ((L.rus.take k).find? (fun r => Ac.ruleM L r a) = none) ∧ Below w1.heap.size w1 wr) (fun t _ => rn - (intOf t).toNat)
  case atStart => exact ⟨0, by omega, rfl, Lib.hid rfl, Below.refl _ _⟩
  case round =>
    obtain ⟨k, hk, rfl, HA, hbr⟩ := hrel
    clear c1
    by_cases hlt : k < rn
    · obtain ⟨gr, o, p, rfl, hgr, HP, hc1, hc2, hc3⟩ := (hR.step hbr).at_ hlt
      obtain ⟨r, hr⟩ := HNM.out k p HP.out
      obtain ⟨q1, q2, q3, pts, q4, q5⟩ := (hRu.step hbr).2 k p r HP.out hr
      obtain ⟨p1, p2, pA, pn, pc⟩ := p
      dsimp only at hc1 hc2 hc3 q1 q2 q3 q4
      subst q1 q2
      have halt := alloc_below wr (.cells #[.int .i64 (r.ln : Int), .bool r.al, .slice pA pn pc] 60)
      have hrt := heap_alloc_new wr (.cells #[.int .i64 (r.ln : Int), .bool r.al, .slice pA pn pc] 60)
      have hra2 := ((halt.block w.heap.size (by have := hbr.size; omega)).trans (hbr.block w.heap.size hz1)).trans hra
      have hMW := maxl_b (maxl_b hM1 hbr) halt
      have hbr2 := bnext hbr halt hbr.size
      have hC := hMT.out r pts pA pn pc _ hMW ((hB.step hbr).step halt) (q4.step halt) q3 q5
      have HF2 := Lib.hid (HF.out k r hr HA.out)
      have HS2 := Lib.hid (HS.out k r hr HA.out)
      generalize Ac.ruleM L r a = rm at *
      clear HNM HF HS HE HA HP hr q3 q4 q5 halt hMT
      go_upto_region 4 with fail
      clear hc1 hc2 hc3
      generalize wr.alloc (.cells #[.int .i64 (r.ln : Int), .bool r.al, .slice pA pn pc] 60) = w4 at *
      generalize wr.heap.size = tb at *
      have d0 : w4.cell? ⟨tb, 0, none⟩ = some (.int .i64 (r.ln : Int)) := by rw [cell_of_row _ _ _ _ _ _ hrt]; rfl
      have d1 : w4.cell? ⟨tb, 1, none⟩ = some (.bool r.al) := by rw [cell_of_row _ _ _ _ _ _ hrt]; rfl
      have d2 : w4.cell? ⟨tb, 2, none⟩ = some (.slice pA pn pc) := by rw [cell_of_row _ _ _ _ _ _ hrt]; rfl
      obtain ⟨a0, a1, a2, a3, a4, a5⟩ := row_facts6 hra2
      go_wp2_with fail
      refine hC.mono ?_
      rintro x w5 ⟨rfl, hbq⟩
      clear hC a0 a1 a2 a3 a4 a5 d0 d1 d2
      have hbr3 := bnext hbr2 hbq hbr2.size
      have hrt5 := (hbq.block tb (Array.getElem?_eq_some_iff.1 hrt).1).trans hrt
      cases rm with
      | true =>
        have HR := Lib.hid (HF2.out rfl)
        clear HF2 HS2
        have d0 : w5.cell? ⟨tb, 0, none⟩ = some (.int .i64 (r.ln : Int)) := by rw [cell_of_row _ _ _ _ _ _ hrt5]; rfl
        have d1 : w5.cell? ⟨tb, 1, none⟩ = some (.bool r.al) := by rw [cell_of_row _ _ _ _ _ _ hrt5]; rfl
        go_wp2_with fail
        go_quiet (fail)
        go_wp2
        go_ret2
        exact ⟨by rw [HR.out]; rfl, below_drewN (bnext hal hbr3 hal.size) _⟩
      | false =>
        have HS3 := Lib.hid (HS2.out rfl)
        clear HF2 HS2
        go_wp2
        go_roundw
        case rel => exact ⟨k + 1, by omega, by go_num, HS3, hbr3⟩
        case measure => simp [intOf]; omega
    · obtain rfl : k = rn := by omega
      have HR := Lib.hid (HE.out HA.out)
      clear HNM HF HS HE HA hMT
      have hg2 := (hbr.block g hgl1).trans hg1
      have c1 : wr.cell? ⟨g, 1, none⟩ = some (.slice Ra k rc) := by rw [cell_of_row _ _ _ _ _ _ hg2]; rfl
      have hk0 : ((k : Int) == 0) = decide (k = 0) := by rw [Bool.eq_iff_iff, beq_iff_eq, decide_eq_true_iff]; omega
      go_wp2
      go_ret2
      exact ⟨by rw [HR.out]; rfl, bnext hal hbr hal.size⟩
end Go.Proofs.YtgkphjbcaidcpaaGreatDoor
set_option linter.unusedVariables false
set_option linter.unusedSimpArgs false
namespace Go.Proofs.YtgkphjbcaidcpaaGreatDoor
open Go.RowKit

set_option maxRecDepth 100000
theorem law : Maps.Keyed Tryz.prog 9 := Maps.string_keyed Tryz.underlying9
theorem keyIs {s : List UInt8} (h : s.length ≤ maxLen) : keyOf Tryz.prog 9 (.string (bs s)) = some (.string s) := WideMaps.keyOf_string_mk Tryz.underlying9 (s := bs s) (by simpa using h)
/-- How a function reads: its number. -/
def fnR : Value → Option (DataW Unit × List MemPlace)
  | .nilFunc => some (.nil, [])
  | .func (.func k) a b => if a.size = 0 ∧ b.size = 0 then some (.lit (.int .i64 (k : Int)), []) else none
  | _ => none
theorem fnR_some (k : Nat) : fnR (.func (.func k) #[] #[]) = some (.lit (.int .i64 (k : Int)), []) := rfl
theorem fnR_inv_nil {v : Value} {z : List MemPlace} (h : fnR v = some (.nil, z)) : v = .nilFunc := by
  unfold fnR at h
  split at h
  · rfl
  · split at h <;> simp at h
  · simp at h
theorem fnR_inv_some {v : Value} {g : Nat} {z : List MemPlace} (h : fnR v = some (.lit (.int .i64 (g : Int)), z)) : v = .func (.func g) #[] #[] := by
  unfold fnR at h
  split at h
  · simp at h
  · rename_i g' a b
    split at h
    · rename_i hh
      have hg9 : (g' : Int) = (g : Int) := by simp at h; exact h.1
      rw [show g' = g from Int.ofNat.inj hg9, Array.eq_empty_of_size_eq_zero hh.1, Array.eq_empty_of_size_eq_zero hh.2]
    · simp at h
  · simp at h
/-- The function that reads values of a kind. -/
def fnK (k : List UInt8) : Option Nat := if k = Ac.timeT then some 55 else if k = Ac.pathT then some 54 else if k = Ac.methT then some 53 else if k = Ac.portT then some 52 else if k = Ac.hostT then some 51 else if k = Ac.srcT then some 50 else none
def fnV (k : List UInt8) : Value := match fnK k with | some n => .func (.func n) #[] #[] | none => .nilFunc
def fnD (k : List UInt8) : DataW Unit := match fnK k with | some n => .lit (.int .i64 (n : Int)) | none => .nil
def FnMap (w : World) (mb : Nat) : Prop := ∃ D, w.ownsMap Tryz.prog 9 fnR mb 6 D ∧ ∀ s : List UInt8, s.length ≤ maxLen → D.atKey (.string s) .nil = fnD s
theorem FnMap.step {w w' : World} {mb : Nat} (h : FnMap w mb) (hb : Below w.heap.size w w') : FnMap w' mb := by
  obtain ⟨D, h1, h2⟩ := h
  exact ⟨D, h1.kept (row := none) ⟨hb.os, hb.tape, hb.output, hb.size, fun k hk _ => hb.block k hk⟩ (by simp), h2⟩
theorem zeroFn (w : World) : (zeroValue 81).run Tryz.prog w = .ok .nilFunc w := by kernel_rfl
theorem FnMap.look {w : World} {mb : Nat} (h : FnMap w mb) {s : List UInt8} (hs : s.length ≤ maxLen) : (Instr.lookup 82 (.map (some mb)) (.string (bs s)) false).run Tryz.prog w = .ok (fnV s) w := by
  obtain ⟨D, hm, hat⟩ := h
  obtain ⟨v, ps, hrun, hv⟩ := hm.lookup law Tryz.underlying82 (zeroFn w) rfl (keyIs hs)
  rw [hrun]
  rw [hat s hs] at hv
  unfold fnD at hv
  unfold fnV
  cases hl : fnK s with
  | none => rw [hl] at hv; rw [fnR_inv_nil hv]
  | some g => rw [hl] at hv; rw [fnR_inv_some hv]
theorem put_at {D : DataW Unit} (hD : Maps.IsMap D) {key : List UInt8} {d : DataW Unit} {f : List UInt8 → DataW Unit} (h : ∀ s : List UInt8, s.length ≤ maxLen → D.atKey (.string s) .nil = f s) : ∀ s : List UInt8, s.length ≤ maxLen → (D.put (.string key) d).atKey (.string s) .nil = if s = key then d else f s := fun s hs => by
  by_cases e : s = key
  · subst e
    rw [if_pos rfl, Maps.atKey_put_same hD (by simp [WideAt.IsKeyLit])]
  · rw [if_neg e, Maps.atKey_put_other (by simpa using e)]
    exact h s hs
set_option maxHeartbeats 2000000 in
theorem parsers_any (w : World) :
    Calls Tryz.prog 38 #[] w fun x w' => ∃ mb, x = .returned (.map (some mb)) ∧ FnMap w' mb ∧ Below w.heap.size w w' := by
  have hmm := @run_makeMap Tryz.prog
  have hal := alloc_below w (.map #[] 0)
  have hm0 := World.ownsMap_made w Tryz.prog 9 fnR
  have hat0 : ∀ s : List UInt8, s.length ≤ maxLen → (DataW.map (H := Unit) []).atKey (.string s) .nil = .nil := fun s _ => rfl
  obtain ⟨w1, hr1, hm1, hg1⟩ := hm0.update law Tryz.underlying82 (by decide) (keyIs (s := [115, 114, 99]) (by decide)) (fnR_some 50)
  have hat1 := put_at hm0.isMap (key := Ac.srcT) (d := .lit (.int .i64 ((50 : Nat) : Int))) hat0
  change (Instr.mapUpdate 82 (.map (some w.heap.size)) (.string ⟨#[115, 114, 99]⟩) (.func (.func 50) #[] #[])).run Tryz.prog (w.alloc (.map #[] 0)) = .ok () w1 at hr1
  obtain ⟨w2, hr2, hm2, hg2⟩ := hm1.update law Tryz.underlying82 (by decide) (keyIs (s := [104, 111, 115, 116]) (by decide)) (fnR_some 51)
  have hat2 := put_at hm1.isMap (key := Ac.hostT) (d := .lit (.int .i64 ((51 : Nat) : Int))) hat1
  change (Instr.mapUpdate 82 (.map (some w.heap.size)) (.string ⟨#[104, 111, 115, 116]⟩) (.func (.func 51) #[] #[])).run Tryz.prog w1 = .ok () w2 at hr2
  obtain ⟨w3, hr3, hm3, hg3⟩ := hm2.update law Tryz.underlying82 (by decide) (keyIs (s := [112, 111, 114, 116]) (by decide)) (fnR_some 52)
  have hat3 := put_at hm2.isMap (key := Ac.portT) (d := .lit (.int .i64 ((52 : Nat) : Int))) hat2
  change (Instr.mapUpdate 82 (.map (some w.heap.size)) (.string ⟨#[112, 111, 114, 116]⟩) (.func (.func 52) #[] #[])).run Tryz.prog w2 = .ok () w3 at hr3
  obtain ⟨w4, hr4, hm4, hg4⟩ := hm3.update law Tryz.underlying82 (by decide) (keyIs (s := [109, 101, 116, 104, 111, 100]) (by decide)) (fnR_some 53)
  have hat4 := put_at hm3.isMap (key := Ac.methT) (d := .lit (.int .i64 ((53 : Nat) : Int))) hat3
  change (Instr.mapUpdate 82 (.map (some w.heap.size)) (.string ⟨#[109, 101, 116, 104, 111, 100]⟩) (.func (.func 53) #[] #[])).run Tryz.prog w3 = .ok () w4 at hr4
  obtain ⟨w5, hr5, hm5, hg5⟩ := hm4.update law Tryz.underlying82 (by decide) (keyIs (s := [112, 97, 116, 104]) (by decide)) (fnR_some 54)
  have hat5 := put_at hm4.isMap (key := Ac.pathT) (d := .lit (.int .i64 ((54 : Nat) : Int))) hat4
  change (Instr.mapUpdate 82 (.map (some w.heap.size)) (.string ⟨#[112, 97, 116, 104]⟩) (.func (.func 54) #[] #[])).run Tryz.prog w4 = .ok () w5 at hr5
  obtain ⟨w6, hr6, hm6, hg6⟩ := hm5.update law Tryz.underlying82 (by decide) (keyIs (s := [116, 105, 109, 101]) (by decide)) (fnR_some 55)
  have hat6 := put_at hm5.isMap (key := Ac.timeT) (d := .lit (.int .i64 ((55 : Nat) : Int))) hat5
  change (Instr.mapUpdate 82 (.map (some w.heap.size)) (.string ⟨#[116, 105, 109, 101]⟩) (.func (.func 55) #[] #[])).run Tryz.prog w5 = .ok () w6 at hr6
  have HF : FnMap w6 w.heap.size := ⟨_, hm6, fun s hs => by
    refine Eq.trans (hat6 s hs) ?_
    unfold fnD fnK
    by_cases h6 : s = Ac.timeT
    · subst h6; rfl
    by_cases h5 : s = Ac.pathT
    · subst h5; rfl
    by_cases h4 : s = Ac.methT
    · subst h4; rfl
    by_cases h3 : s = Ac.portT
    · subst h3; rfl
    by_cases h2 : s = Ac.hostT
    · subst h2; rfl
    by_cases h1 : s = Ac.srcT
    · subst h1; rfl
    rw [if_neg h6, if_neg h5, if_neg h4, if_neg h3, if_neg h2, if_neg h1, if_neg h6, if_neg h5, if_neg h4, if_neg h3, if_neg h2, if_neg h1]⟩
  have HB : Hid (Below w.heap.size w w6) := Lib.hid (by
    have k0 := hal
    have k1 := k0.grown hg1 hal.size (fun k e => by cases e; exact Nat.le_refl _)
    have k2 := k1.grown hg2 k1.size (fun k e => by cases e; exact Nat.le_refl _)
    have k3 := k2.grown hg3 k2.size (fun k e => by cases e; exact Nat.le_refl _)
    have k4 := k3.grown hg4 k3.size (fun k e => by cases e; exact Nat.le_refl _)
    have k5 := k4.grown hg5 k4.size (fun k e => by cases e; exact Nat.le_refl _)
    exact k5.grown hg6 k5.size (fun k e => by cases e; exact Nat.le_refl _))
  clear hm0 hat0 hm1 hat1 hm2 hat2 hm3 hat3 hm4 hat4 hm5 hat5 hm6 hat6 hg1 hg2 hg3 hg4 hg5 hg6
  go_enter Tryz.func38, Tryz.ntmps38
  go_wp2
  go_ret
  exact ⟨_, rfl, HF, HB.out⟩
end Go.Proofs.YtgkphjbcaidcpaaGreatDoor
