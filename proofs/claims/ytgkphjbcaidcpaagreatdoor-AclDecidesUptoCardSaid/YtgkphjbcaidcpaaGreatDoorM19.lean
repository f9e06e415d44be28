/- Joined texts: The reference's list in memory; its at; The reference's named and Decide. The conditions stand in each line. -/
import Derived.Test.YtgkphjbcaidcpaaGreatDoorM15
import Derived.Test.YtgkphjbcaidcpaaGreatDoorM18
import Derived.Deep.RegionHeld3
import Derived.Deep.Cut
import Derived.Deep.DeepCutAuto
set_option linter.unusedVariables false
set_option linter.unusedSimpArgs false
namespace Go.Proofs.YtgkphjbcaidcpaaGreatDoor
open Go.RowKit

set_option maxRecDepth 100000
/-- An element as the reference keeps it. -/
structure PEl where
  nm : List UInt8
  kd : List UInt8
  A : Option Addr
  n : Nat
  c : Nat
def ecells : List PEl → List Value
  | [] => []
  | p :: r => .string (bs p.nm) :: .string (bs p.kd) :: .slice p.A p.n p.c :: ecells r
theorem ecells_length (l : List PEl) : (ecells l).length = l.length * 3 := by
  induction l with
  | nil => rfl
  | cons p r ih => simp [ecells, ih]; omega
theorem ecells_append (l m : List PEl) : ecells (l ++ m) = ecells l ++ ecells m := by
  induction l with
  | nil => rfl
  | cons p r ih => simp [ecells, ih]
theorem ecells_one (l : List PEl) : ∀ u ∈ ecells l, u.oneCell' = true := by
  induction l with
  | nil => intro u hu; simp [ecells] at hu
  | cons p r ih =>
    intro u hu
    simp only [ecells, List.mem_cons] at hu
    rcases hu with rfl | rfl | rfl | hu
    · rfl
    · rfl
    · rfl
    · exact ih u hu
theorem ecells_get (l : List PEl) (k : Nat) (h : k < l.length) : (ecells l)[k * 3]? = some (.string (bs l[k].nm)) ∧ (ecells l)[k * 3 + 1]? = some (.string (bs l[k].kd)) ∧ (ecells l)[k * 3 + 2]? = some (.slice l[k].A l[k].n l[k].c) := by
  induction l generalizing k with
  | nil => simp at h
  | cons p r ih =>
    cases k with
    | zero => exact ⟨rfl, rfl, rfl⟩
    | succ k =>
      have := ih k (by simpa using h)
      rw [show (k + 1) * 3 = k * 3 + 1 + 1 + 1 by omega]
      exact ⟨by simpa [ecells] using this.1, by simpa [ecells] using this.2.1, by simpa [ecells] using this.2.2⟩
def RdE (w : World) (A : Option Addr) (n : Nat) (l : List PEl) : Prop := l.length = n ∧ Rd w 3 A n (ecells l)
theorem RdE.step {w w' : World} {A : Option Addr} {n : Nat} {l : List PEl} (h : RdE w A n l) (hb : Below w.heap.size w w') : RdE w' A n l := ⟨h.1, h.2.step hb⟩
theorem RdE.at_ {w : World} {A : Option Addr} {n : Nat} {l : List PEl} (h : RdE w A n l) {k : Nat} (hk : k < n) : ∃ g o p, A = some ⟨g, o, none⟩ ∧ g < w.heap.size ∧ Hid (l[k]? = some p) ∧ w.cell? ⟨g, o + k * 3, none⟩ = some (.string (bs p.nm)) ∧ w.cell? ⟨g, o + k * 3 + 1, none⟩ = some (.string (bs p.kd)) ∧ w.cell? ⟨g, o + k * 3 + 2, none⟩ = some (.slice p.A p.n p.c) := by
  obtain ⟨g, o, e, hg, hc⟩ := h.2.2 (by omega)
  have hk' : k < l.length := by rw [h.1]; exact hk
  have ht := ecells_get l k hk'
  exact ⟨g, o, l[k], e, hg, Lib.hid (List.getElem?_eq_getElem hk'), hc _ _ ht.1, by rw [Nat.add_assoc]; exact hc _ _ ht.2.1, by rw [Nat.add_assoc]; exact hc _ _ ht.2.2⟩
/-- The elements in memory are these. -/
def ElsOK (w : World) (pes : List PEl) (els : List Ac.El) : Prop :=
  pes.length = els.length ∧ ∀ (i : Nat) (p : PEl) (e : Ac.El), pes[i]? = some p → els[i]? = some e → p.nm = e.nm ∧ p.kd = e.kd ∧ p.n ≤ 4194304 ∧ RdS w p.A p.n e.vs
/-- The rules in memory are these. -/
def RusOK (w : World) (prs : List PRu) (rus : List Ac.Ru) : Prop :=
  prs.length = rus.length ∧ ∀ (i : Nat) (p : PRu) (r : Ac.Ru), prs[i]? = some p → rus[i]? = some r → p.ln = r.ln ∧ p.al = r.al ∧ p.n ≤ 4194304 ∧ RdS w p.A p.n r.ns
theorem ElsOK.step {w w' : World} {pes : List PEl} {els : List Ac.El} (h : ElsOK w pes els) (hb : Below w.heap.size w w') : ElsOK w' pes els :=
  ⟨h.1, fun i p e h1 h2 => by obtain ⟨k1, k2, k3, k4⟩ := h.2 i p e h1 h2; exact ⟨k1, k2, k3, k4.step hb⟩⟩
theorem RusOK.step {w w' : World} {prs : List PRu} {rus : List Ac.Ru} (h : RusOK w prs rus) (hb : Below w.heap.size w w') : RusOK w' prs rus :=
  ⟨h.1, fun i p e h1 h2 => by obtain ⟨k1, k2, k3, k4⟩ := h.2 i p e h1 h2; exact ⟨k1, k2, k3, k4.step hb⟩⟩
/-- A list of the reference's that is only read. -/
structure RLst (w : World) (E : Option Addr) (en : Nat) (R : Option Addr) (rn : Nat) (L : Ac.LS) : Prop where
  els : ∃ pes, RdE w E en pes ∧ ElsOK w pes L.els
  rus : ∃ prs, RdR w R rn prs ∧ RusOK w prs L.rus
  en_le : en ≤ 4194304
  rn_le : rn ≤ 4194304
theorem RLst.step {w w' : World} {E R : Option Addr} {en rn : Nat} {L : Ac.LS} (h : RLst w E en R rn L) (hb : Below w.heap.size w w') : RLst w' E en R rn L := by
  obtain ⟨⟨pes, h1, h2⟩, ⟨prs, h3, h4⟩, h5, h6⟩ := h
  exact ⟨⟨pes, h1.step hb, h2.step hb⟩, ⟨prs, h3.step hb, h4.step hb⟩, h5, h6⟩
def rlV (E : Option Addr) (en ec : Nat) (R : Option Addr) (rn rc : Nat) : Value := .agg #[.slice E en ec, .slice R rn rc]
namespace Ac
theorem atI_first {els : List El} {s : T} {k : Nat} {e : El} (he : els[k]? = some e) (hn : e.nm = s) (hb : ∀ j x, j < k → els[j]? = some x → x.nm ≠ s) : atI els s = some k := by
  unfold atI
  obtain ⟨hk, rfl⟩ := List.getElem?_eq_some_iff.1 he
  rw [List.findIdx?_eq_some_iff_getElem]
  refine ⟨hk, by rw [beq_iff_eq]; exact hn, fun j hj => ?_⟩
  have := hb j _ hj (List.getElem?_eq_getElem (by omega))
  rw [Bool.not_eq_true, beq_eq_false_iff_ne]; exact this
theorem atI_never {els : List El} {s : T} (hb : ∀ j x, j < els.length → els[j]? = some x → x.nm ≠ s) : atI els s = none := by
  unfold atI
  rw [List.findIdx?_eq_none_iff]
  intro x hx
  obtain ⟨j, hj⟩ := List.mem_iff_getElem?.1 hx
  have := hb j x (lt_of_get? hj) hj
  rw [beq_eq_false_iff_ne]; exact this
end Ac
theorem row_facts2w {w : World} {b : Nat} {v0 v1 : Value} {t : TypeId} (h : w.heap[b]? = some (.cells #[v0, v1] t (0, 0))) : w.cell? ⟨b, 0, none⟩ = some v0 ∧ w.cell? ⟨b, 1, none⟩ = some v1 := by
  refine ⟨?_, ?_⟩ <;> (rw [cell_of_row _ _ _ _ _ _ h]; rfl)
theorem row_facts3w {w : World} {b : Nat} {v0 v1 v2 : Value} {t : TypeId} (h : w.heap[b]? = some (.cells #[v0, v1, v2] t (0, 0))) : w.cell? ⟨b, 0, none⟩ = some v0 ∧ w.cell? ⟨b, 1, none⟩ = some v1 ∧ w.cell? ⟨b, 2, none⟩ = some v2 := by
  refine ⟨?_, ?_, ?_⟩ <;> (rw [cell_of_row _ _ _ _ _ _ h]; rfl)
set_option maxHeartbeats 2000000 in
theorem rat_any (E : Option Addr) (en ec : Nat) (R : Option Addr) (rn rc : Nat) (L : Ac.LS) (s : List UInt8) (w : World) (hL : RLst w E en R rn L) :
    Calls Tryz.prog 29 #[rlV E en ec R rn rc, .string (bs s)] w fun x w' => x = .returned (.int .i64 (numI (Ac.atI L.els s))) ∧ Below w.heap.size w w' := by
  have hal := alloc_below w (.cells #[.slice E en ec, .slice R rn rc] 31)
  have hr := heap_alloc_new w (.cells #[.slice E en ec, .slice R rn rc] 31)
  obtain ⟨⟨pes, hE, hO⟩, -, hen, -⟩ := hL
  replace hE := hE.step hal
  have hlen : L.els.length = en := by rw [← hO.1, hE.1]
  have HNM : Hid (∀ (j : Nat) (p : PEl), pes[j]? = some p → ∃ e, L.els[j]? = some e ∧ e.nm = p.nm) := Lib.hid fun j p hp =>
    have h1 : L.els[j]? = some _ := List.getElem?_eq_getElem (by rw [hlen, ← hE.1]; exact lt_of_get? hp)
    ⟨_, h1, ((hO.2 j p _ hp h1).1).symm⟩
  have HY : Hid (∀ (k : Nat) (p : PEl), pes[k]? = some p → (p.nm == s) = true → (∀ j x, j < k → L.els[j]? = some x → x.nm ≠ s) → numI (Ac.atI L.els s) = (k : Int)) := Lib.hid fun k p hp hq hb => by
    obtain ⟨e, h1, h2⟩ := HNM.out k p hp
    rw [Ac.atI_first h1 (by rw [h2]; exact eq_of_beq hq) hb]; rfl
  have HS : Hid (∀ (k : Nat) (p : PEl), pes[k]? = some p → (p.nm == s) = false → (∀ j x, j < k → L.els[j]? = some x → x.nm ≠ s) → (∀ j x, j < k + 1 → L.els[j]? = some x → x.nm ≠ s)) := Lib.hid fun k p hp hq hb j x hj hx => by
    by_cases hjk : j = k
    · subst hjk
      obtain ⟨e, h1, h2⟩ := HNM.out j p hp
      rw [h1] at hx; cases hx
      rw [h2]; exact ne_of_beq_false hq
    · exact hb j x (by omega) hx
  have HN : Hid ((∀ j x, j < en → L.els[j]? = some x → x.nm ≠ s) → numI (Ac.atI L.els s) = -1) := Lib.hid fun hb => by
    rw [Ac.atI_never (fun j x hj hx => hb j x (by omega) hx)]; rfl
  generalize numI (Ac.atI L.els s) = V at *
  unfold rlV
  clear hO hlen HNM
  go_enter Tryz.func29, Tryz.ntmps29
  go_upto_region 1 with fail
  generalize w.alloc (.cells #[.slice E en ec, .slice R rn rc] 31) = w1 at *
  obtain ⟨c0, c1⟩ := row_facts2w hr
  go_wp2
  go_loop [5] (fun t => ∃ k : Nat, k ≤ en ∧ t = .int .i64 (k : Int) ∧ Hid (∀ j x, j < k → L.els[j]? = some x → x.nm ≠ s)) (fun t => en - (intOf t).toNat)
  case atStart => exact ⟨0, by omega, rfl, Lib.hid fun j x hj => by omega⟩
  case round =>
    obtain ⟨k, hk, rfl, HB⟩ := hrel
    by_cases hlt : k < en
    · obtain ⟨g, o, p, rfl, hg, HP, d0, d1, d2⟩ := hE.at_ hlt
      cases hq : (p.nm == s) with
      | true =>
        have HV := Lib.hid (HY.out k p HP.out hq HB.out)
        clear HY HS HN HB HP
        go_wp2
        go_ret
        exact ⟨by rw [HV.out]; rfl, hal⟩
      | false =>
        have HB2 := Lib.hid (HS.out k p HP.out hq HB.out)
        clear HY HS HN HB HP
        go_wp2
        go_round
        case rel => exact ⟨k + 1, by omega, by go_num, HB2⟩
        case measure => simp [intOf] <;> omega
    · obtain rfl : k = en := by omega
      have HV := Lib.hid (HN.out HB.out)
      clear HY HS HN HB
      go_wp2
      go_ret
      exact ⟨by rw [HV.out]; rfl, hal⟩
end Go.Proofs.YtgkphjbcaidcpaaGreatDoor
set_option linter.unusedVariables false
set_option linter.unusedSimpArgs false
namespace Go.Proofs.YtgkphjbcaidcpaaGreatDoor
open Go.RowKit

set_option maxRecDepth 100000
theorem heap_setJ {w : World} {b : Nat} {cs : Array Value} {t : TypeId} (h : w.heap[b]? = some (.cells cs t (0, 0))) (o : Nat) (v : Value) :
    (w.setCell ⟨b, o, none⟩ v).heap[b]? = some (.cells (cs.setIfInBounds o v) t (0, 0)) := by
  simp [World.setCell, Array.getElem?_modify, h]
theorem row_frz {w : World} {b : Nat} {cs : Array Value} {t : TypeId} (h : w.heap[b]? = some (.cells cs t (0, 0))) : w.frozen? ⟨b, 0, none⟩ = false ∧ w.frozen? ⟨b, 1, none⟩ = false ∧ w.frozen? ⟨b, 2, none⟩ = false := by
  simp [World.frozen?, h]
theorem set3_row {w : World} {b : Nat} {v0 v1 v2 u0 u1 u2 : Value} {t : TypeId} (h : w.heap[b]? = some (.cells #[v0, v1, v2] t (0, 0))) :
    (((w.setCell ⟨b, 0, none⟩ u0).setCell ⟨b, 1, none⟩ u1).setCell ⟨b, 2, none⟩ u2).heap[b]? = some (.cells #[u0, u1, u2] t (0, 0)) :=
  heap_setJ (heap_setJ (heap_setJ h 0 u0) 1 u1) 2 u2
set_option maxHeartbeats 4000000 in
theorem rnamed_any (E : Option Addr) (en ec : Nat) (R : Option Addr) (rn rc : Nat) (L : Ac.LS) (s : List UInt8) (a : Ac.Ask) (w : World) (ha : AskOK a) (hL : RLst w E en R rn L) {k : Nat} {e : Ac.El} (hat : Ac.atI L.els s = some k) (he : L.els[k]? = some e) (hv : ∀ v ∈ e.vs, ValOK e.kd v) :
    Calls Tryz.prog 24 #[rlV E en ec R rn rc, .string (bs s), askV a] w fun x w' => x = .returned (.bool (Ac.named L s a)) ∧ Below w.heap.size w w' := by
  rw [named_of hat he]
  have hal0 := alloc_below w (.cells #[.slice E en ec, .slice R rn rc] 31)
  have hr0 := heap_alloc_new w (.cells #[.slice E en ec, .slice R rn rc] 31)
  have hal1 := alloc_below (w.alloc (.cells #[.slice E en ec, .slice R rn rc] 31)) (.cells #[.int .i64 a.src, .string (bs a.host), .int .i64 a.port, .string (bs a.meth), .string (bs a.path), .int .i64 a.now] 37)
  have hra := heap_alloc_new (w.alloc (.cells #[.slice E en ec, .slice R rn rc] 31)) (.cells #[.int .i64 a.src, .string (bs a.host), .int .i64 a.port, .string (bs a.meth), .string (bs a.path), .int .i64 a.now] 37)
  have hrl := (hal1.block w.heap.size (by simp)).trans hr0
  have hal := bnext hal0 hal1 hal0.size
  rw [show (w.alloc (.cells #[.slice E en ec, .slice R rn rc] 31)).heap.size = w.heap.size + 1 by simp] at hra
  replace hL := hL.step hal
  have HAT := Lib.hid fun W hW => rat_any E en ec R rn rc L s W (hL.step hW)
  rw [hat] at HAT
  obtain ⟨⟨pes, hE, hO⟩, -, hen, -⟩ := hL
  have hken : k < en := by have := atI_lt hat; rw [← hO.1, hE.1] at this; exact this
  obtain ⟨g, o, p, rfl, hg, HP, d0, d1, d2⟩ := hE.at_ hken
  obtain ⟨q1, q2, q3, q4⟩ := hO.2 k p e HP.out he
  obtain ⟨pn, pk, pA, pl, pc⟩ := p
  dsimp only at d0 d1 d2 q1 q2 q3 q4
  subst q1 q2
  have HH := Lib.hid fun v W (hm : v ∈ e.vs) => rholds_any e.kd v a W ha (hv v hm)
  have HF : Hid (∀ k v, e.vs[k]? = some v → Ac.holds e.kd v a = true → Ac.elH e a = true) := Lib.hid fun k v h1 h2 => anyQ_stop _ h1 h2
  have HT : Hid (∀ k v, e.vs[k]? = some v → (e.vs.take k).any (fun v => Ac.holds e.kd v a) = false → Ac.holds e.kd v a = false → (e.vs.take (k + 1)).any (fun v => Ac.holds e.kd v a) = false) := Lib.hid fun k v h1 h2 h3 => by rw [anyQ_snoc _ h1, h2, h3]; rfl
  have HE : Hid ((e.vs.take pl).any (fun v => Ac.holds e.kd v a) = false → Ac.elH e a = false) := Lib.hid fun h => by rw [List.take_of_length_le (by rw [q4.1]; exact Nat.le_refl _)] at h; exact h
  generalize Ac.elH e a = EH at *
  have HQ4 := Lib.hid q4
  clear hat he hv hO HP hE q4
  unfold rlV askV at *
  go_enter Tryz.func24, Tryz.ntmps24
  go_upto_region 1 with fail
  generalize (w.alloc (.cells #[.slice (some ⟨g, o, none⟩) en ec, .slice R rn rc] 31)).alloc (.cells #[.int .i64 a.src, .string (bs a.host), .int .i64 a.port, .string (bs a.meth), .string (bs a.path), .int .i64 a.now] 37) = w1 at *
  obtain ⟨c0, c1⟩ := row_facts2w hrl
  have hgl : w.heap.size < w1.heap.size := (Array.getElem?_eq_some_iff.1 hrl).1
  have hgl2 : w.heap.size + 1 < w1.heap.size := (Array.getElem?_eq_some_iff.1 hra).1
  have h0 : w1.cell? ⟨w.heap.size, 0, none⟩ = some (.slice (some ⟨g, o, none⟩) en ec) ∧ w1.cell? ⟨w.heap.size, 1, none⟩ = some (.slice R rn rc) ∧ w1.cell? ⟨g, o + k * 3, none⟩ = some (.string (bs e.nm)) ∧ w1.cell? ⟨g, o + k * 3 + 1, none⟩ = some (.string (bs e.kd)) ∧ w1.cell? ⟨g, o + k * 3 + 2, none⟩ = some (.slice pA pl pc) := ⟨c0, c1, d0, d1, d2⟩
  have tk : ∀ W, Below w1.heap.size w1 W → W.cell? ⟨w.heap.size, 0, none⟩ = some (.slice (some ⟨g, o, none⟩) en ec) ∧ W.cell? ⟨w.heap.size, 1, none⟩ = some (.slice R rn rc) ∧ W.cell? ⟨g, o + k * 3, none⟩ = some (.string (bs e.nm)) ∧ W.cell? ⟨g, o + k * 3 + 1, none⟩ = some (.string (bs e.kd)) ∧ W.cell? ⟨g, o + k * 3 + 2, none⟩ = some (.slice pA pl pc) := fun W hW =>
    ⟨(hW.cell (p := ⟨_, _, none⟩) hgl).trans c0, (hW.cell (p := ⟨_, _, none⟩) hgl).trans c1, (hW.cell (p := ⟨_, _, none⟩) hg).trans d0, (hW.cell (p := ⟨_, _, none⟩) hg).trans d1, (hW.cell (p := ⟨_, _, none⟩) hg).trans d2⟩
  have hC := HAT.out w1.drew (Below.refl _ _).drew
  have hB1 : Below w1.heap.size w1 w1.drew := (Below.refl _ _).drew
  have hB2 : Below w1.heap.size w1 (w1.alloc (.cells #[.string ⟨#[]⟩, .string ⟨#[]⟩, .slice none 0 0] 75)).drew := (alloc_below _ _).drew
  have hC2 := HAT.out (w1.alloc (.cells #[.string ⟨#[]⟩, .string ⟨#[]⟩, .slice none 0 0] 75)).drew hB2
  have hZ2 := heap_alloc_new w1 (.cells #[.string ⟨#[]⟩, .string ⟨#[]⟩, .slice none 0 0] 75)
  have hi1 : ((k : Int) < (en : Int)) := by omega
  unfold numI at hC hC2
  simp only at hC hC2
  clear HAT
  go_cut [7] (fun cc wx => ∃ gb, cc = .pointer (some ⟨gb, 0, none⟩) ∧ wx.heap[gb]? = some (.cells #[.string (bs e.nm), .string (bs e.kd), .slice pA pl pc] 75 (0, 0)) ∧ Below w1.heap.size w1 wx)
  case first =>
    go_region_held3 (fun w' => w'.cell? ⟨w.heap.size, 0, none⟩ = some (.slice (some ⟨g, o, none⟩) en ec) ∧ w'.cell? ⟨w.heap.size, 1, none⟩ = some (.slice R rn rc) ∧ w'.cell? ⟨g, o + k * 3, none⟩ = some (.string (bs e.nm)) ∧ w'.cell? ⟨g, o + k * 3 + 1, none⟩ = some (.string (bs e.kd)) ∧ w'.cell? ⟨g, o + k * 3 + 2, none⟩ = some (.slice pA pl pc))
      ((first | exact h0 | exact tk _ hB1 | exact tk _ hB2 | exact tk _ hB6 | exact tk _ (hB6.alloc hB6.size _) | exact tk _ hB6a | exact tk _ (((hB6a.setCell (p := ⟨_, _, none⟩) (Nat.le_refl _) _).setCell (p := ⟨_, _, none⟩) (Nat.le_refl _) _).setCell (p := ⟨_, _, none⟩) (Nat.le_refl _) _) | exact tk _ (((hB6.setCell (p := ⟨_, _, none⟩) hB6.size _).setCell (p := ⟨_, _, none⟩) hB6.size _).setCell (p := ⟨_, _, none⟩) hB6.size _)))
      ((first
        | (go_at_call 29; (with_reducible refine hC.mono ?_); rintro x w6 ⟨rfl, hb6⟩; (have hB6 := bnext hB1 hb6 hB1.size))
        | (go_at_call 29; (with_reducible refine hC2.mono ?_); rintro x w6a ⟨rfl, hb6⟩; (have hB6a := bnext hB2 hb6 hB2.size); (have hZ6a := (hb6.block w1.heap.size (by simp)).trans hZ2); (obtain ⟨z0, z1, z2⟩ := row_facts3w hZ6a); (obtain ⟨f0, f1, f2⟩ := row_frz hZ6a); (have HZ6 := Lib.hid hZ6a); clear hZ6a)
        ))
    all_goals
      go_wp2_with fail
      go_meet
      case rel =>
        first
          | exact ⟨_, rfl, heap_alloc_new w6 _, hB6.alloc hB6.size _⟩
          | exact ⟨_, rfl, set3_row HZ6.out, ((hB6a.setCell (p := ⟨_, _, none⟩) (Nat.le_refl _) _).setCell (p := ⟨_, _, none⟩) (Nat.le_refl _) _).setCell (p := ⟨_, _, none⟩) (Nat.le_refl _) _⟩
  case rest =>
    obtain ⟨gb, rfl, hgb, hBc⟩ := hcut
    obtain ⟨x0, x1, x2⟩ := row_facts3w hgb
    have hq4 := HQ4.out.step hBc
    have hbw := bnext hal hBc hal.size
    have hra2 := (hBc.block _ (Array.getElem?_eq_some_iff.1 hra).1).trans hra
    have hgbl : gb < wc.heap.size := (Array.getElem?_eq_some_iff.1 hgb).1
    have HX : Hid (∀ W, Below wc.heap.size wc W → W.cell? ⟨gb, 0, none⟩ = some (.string (bs e.nm)) ∧ W.cell? ⟨gb, 1, none⟩ = some (.string (bs e.kd)) ∧ W.cell? ⟨gb, 2, none⟩ = some (.slice pA pl pc)) := Lib.hid fun W hW =>
      ⟨(hW.cell (p := ⟨_, _, none⟩) hgbl).trans x0, (hW.cell (p := ⟨_, _, none⟩) hgbl).trans x1, (hW.cell (p := ⟨_, _, none⟩) hgbl).trans x2⟩
    have HRA : Hid (∀ W, Below wc.heap.size wc W → W.heap[w.heap.size + 1]? = some (.cells #[.int .i64 a.src, .string (bs a.host), .int .i64 a.port, .string (bs a.meth), .string (bs a.path), .int .i64 a.now] 37 (0, 0))) := Lib.hid fun W hW => (hW.block _ (Array.getElem?_eq_some_iff.1 hra2).1).trans hra2
    clear h0 tk hC hB1 hB2 hC2 hZ2 hi1 c0 c1 d0 d1 d2 hgl hgl2 hra hra2 hrl hal hal0 hal1 hr0 hgb hBc hken hen hg HQ4
    go_wp2
    go_loopw [8] (fun t wr => ∃ j : Nat, j ≤ pl ∧ t = .int .i64 (j : Int) ∧ Hid ((e.vs.take j).any (fun v => Ac.holds e.kd v a) = false) ∧ Below wc.heap.size wc wr) (fun t _ => pl - (intOf t).toNat)
    case atStart => exact ⟨0, by omega, rfl, Lib.hid rfl, Below.refl _ _⟩
    case round =>
      obtain ⟨j, hj, rfl, HA, hbr⟩ := hrel
      obtain ⟨y0, y1, y2⟩ := HX.out _ hbr
      clear x0 x1 x2
      by_cases hlt : j < pl
      · obtain ⟨gv, ov, v, rfl, hgv, HV, hcv⟩ := (hq4.step hbr).at_ hlt
        have HH2 := Lib.hid fun W => HH.out v W (mem_of_get? HV.out)
        have HF2 := Lib.hid (HF.out j v HV.out)
        have HT2 := Lib.hid (HT.out j v HV.out HA.out)
        generalize Ac.holds e.kd v a = hv at *
        clear HF HT HE HA HH HV
        go_upto_region 5 with fail
        clear y0 y1 y2
        have HCV : Hid (∀ W, Below wr.heap.size wr W → W.cell? ⟨gv, ov + j, none⟩ = some (.string (bs v))) := Lib.hid fun W hW => (hW.cell (p := ⟨_, _, none⟩) hgv).trans hcv
        clear hcv hgv
        have HB0 : Hid (∀ W, Below wr.heap.size wr W → Below wc.heap.size wc W) := Lib.hid fun W hW => bnext hbr hW hbr.size
        refine wp_region_detN (n := 9) (S := fun L W => Below wr.heap.size wr W) (by kernel_rfl) rfl (below_drewN (Below.refl _ _) 1) ?_
        refine' DetS.takeL (i := 0) (v := _) rfl (by kernel_rfl) (by kernel_rfl) (by kernel_rfl) (YS.pure rfl ?sd5_0 ?rd5_0) ?nd5_0
        case rd5_0 => intro L W hS;  go_simp; first | rfl | (rw [if_neg (by omega)] <;> rfl) | (rw [if_neg (by simp; omega)] <;> rfl) | (rw [if_neg (by simp)] <;> rfl)
        case sd5_0 => exact fun L W _ h => h
        simp only [Act.put, List.setIfInBounds_toArray, List.set_cons_zero, List.set_cons_succ]
        refine' DetS.takeL (i := 1) (v := _) rfl (by kernel_rfl) (by kernel_rfl) (by kernel_rfl) (YS.pure rfl ?sd5_1 ?rd5_1) ?nd5_1
        case rd5_1 => intro L W hS; obtain ⟨k0, k1, k2⟩ := HX.out W (HB0.out W hS); go_simp; first | rfl | skip
        case sd5_1 => exact fun L W _ h => h
        simp only [Act.put, List.setIfInBounds_toArray, List.set_cons_zero, List.set_cons_succ]
        refine' DetS.takeL (i := 2) (v := _) rfl (by kernel_rfl) (by kernel_rfl) (by kernel_rfl) (YS.pure rfl ?sd5_2 ?rd5_2) ?nd5_2
        case rd5_2 => intro L W hS;  go_simp; first | rfl | (rw [if_neg (by omega)] <;> rfl) | (rw [if_neg (by simp; omega)] <;> rfl) | (rw [if_neg (by simp)] <;> rfl)
        case sd5_2 => exact fun L W _ h => h
        simp only [Act.put, List.setIfInBounds_toArray, List.set_cons_zero, List.set_cons_succ]
        refine' DetS.takeL (i := 3) (v := _) rfl (by kernel_rfl) (by kernel_rfl) (by kernel_rfl) (YS.pure rfl ?sd5_3 ?rd5_3) ?nd5_3
        case rd5_3 => intro L W hS; obtain ⟨k0, k1, k2⟩ := HX.out W (HB0.out W hS); go_simp; first | rfl | skip
        case sd5_3 => exact fun L W _ h => h
        simp only [Act.put, List.setIfInBounds_toArray, List.set_cons_zero, List.set_cons_succ]
        refine' DetS.takeL (i := 4) (v := _) rfl (by kernel_rfl) (by kernel_rfl) (by kernel_rfl) (YS.pure rfl ?sd5_4 ?rd5_4) ?nd5_4
        case rd5_4 => intro L W hS;  go_simp; first | rfl | (rw [if_neg (by omega)] <;> rfl) | (rw [if_neg (by simp; omega)] <;> rfl) | (rw [if_neg (by simp)] <;> rfl)
        case sd5_4 => exact fun L W _ h => h
        simp only [Act.put, List.setIfInBounds_toArray, List.set_cons_zero, List.set_cons_succ]
        refine' DetS.takeL (i := 5) (v := _) rfl (by kernel_rfl) (by kernel_rfl) (by kernel_rfl) (YS.pure rfl ?sd5_5 ?rd5_5) ?nd5_5
        case rd5_5 => intro L W hS;  go_simp; first | rfl | (rw [if_neg (by omega)] <;> rfl) | (rw [if_neg (by simp; omega)] <;> rfl) | (rw [if_neg (by simp)] <;> rfl)
        case sd5_5 => exact fun L W _ h => h
        simp only [Act.put, List.setIfInBounds_toArray, List.set_cons_zero, List.set_cons_succ]
        refine' DetS.takeL (i := 6) (v := _) rfl (by kernel_rfl) (by kernel_rfl) (by kernel_rfl) (YS.pure rfl ?sd5_6 ?rd5_6) ?nd5_6
        case rd5_6 => intro L W hS; have k0 := HCV.out W hS; go_simp; first | rfl | skip
        case sd5_6 => exact fun L W _ h => h
        simp only [Act.put, List.setIfInBounds_toArray, List.set_cons_zero, List.set_cons_succ]
        refine' DetS.takeL (i := 7) (v := _) rfl (by kernel_rfl) (by kernel_rfl) (by kernel_rfl) (YS.pure rfl ?sd5_7 ?rd5_7) ?nd5_7
        case rd5_7 => intro L W hS; obtain ⟨k0, k1, k2, k3, k4, k5⟩ := row_facts6 (HRA.out W (HB0.out W hS)); go_simp; first | rfl | skip
        case sd5_7 => exact fun L W _ h => h
        simp only [Act.put, List.setIfInBounds_toArray, List.set_cons_zero, List.set_cons_succ]
        refine' DetS.takeL (i := 8) (v := _) rfl (by kernel_rfl) (by kernel_rfl) (by kernel_rfl) (YS.call (f := _) (args := _) rfl ?rd5_8 ?cd5_8) ?nd5_8
        case rd5_8 => intro W; go_simp; constructor <;> rfl
        case cd5_8 =>
          intro L W hL hS
          refine (HH2.out W).mono ?_
          rintro x w9 ⟨rfl, hb9⟩
          exact ⟨rfl, bnext hS hb9 hS.size⟩
        simp only [Act.put, List.setIfInBounds_toArray, List.set_cons_zero, List.set_cons_succ]
        refine DetS.done (by kernel_rfl) (fun W hS => ?_) _
        cases hv with
        | true =>
          have HR := Lib.hid (HF2.out rfl)
          clear HF2 HT2
          go_wp2
          go_ret
          exact ⟨by rw [HR.out]; rfl, bnext hbw (HB0.out _ hS) hbw.size⟩
        | false =>
          have HA3 := Lib.hid (HT2.out rfl)
          clear HF2 HT2
          go_wp2
          go_roundw
          case rel => exact ⟨j + 1, by omega, by go_num, HA3, HB0.out _ hS⟩
          case measure => simp [intOf] <;> omega
      · obtain rfl : j = pl := by omega
        have HR := Lib.hid (HE.out HA.out)
        clear HF HT HE HA HH
        go_wp2
        go_ret
        exact ⟨by rw [HR.out]; rfl, bnext hbw hbr hbw.size⟩
end Go.Proofs.YtgkphjbcaidcpaaGreatDoor
