/- (*Pool).find with questions that only read; the steps of the ring; the pool's questions. Conditions: what the question tells is handed in. -/
import Derived.Test.YtepedjnmliclkaaFind
import Derived.Deep.QuietTactic
import Derived.BigQuiet
set_option linter.unusedVariables false
set_option linter.unusedSimpArgs false
namespace Go.Proofs.Ytepedjnmliclkaa
open Go.RowKit

theorem after_any (b o : Nat) (p : Addr) (w : World) (hc : w.cell? ⟨b, o + 4, none⟩ = some (.pointer (some p))) : Calls Try.prog 68 #[.pointer (some ⟨b, o, none⟩)] w fun e w' => e = .returned (.pointer (some p)) ∧ w = w' := by
  go_enter Try.func68, Try.ntmps68
  go_wp2
  go_ret
  exact ⟨rfl, rfl⟩
theorem before_any (b o : Nat) (p : Addr) (w : World) (hc : w.cell? ⟨b, o + 3, none⟩ = some (.pointer (some p))) : Calls Try.prog 69 #[.pointer (some ⟨b, o, none⟩)] w fun e w' => e = .returned (.pointer (some p)) ∧ w = w' := by
  go_enter Try.func69, Try.ntmps69
  go_wp2
  go_ret
  exact ⟨rfl, rfl⟩
def sF (G : List (Nat × Cn)) (j : Nat) : Nat := match G[j - 1]? with | some x => x.1 | none => 0
def sB (G : List (Nat × Cn)) (j : Nat) : Nat := sF G (G.length + 1 - j)
theorem sF_get {G : List (Nat × Cn)} {j : Nat} {x : Nat × Cn} (h : G[j]? = some x) : sF G (j + 1) = x.1 := by simp [sF, h]
theorem plc_fwd (pb : Nat) (G : List (Nat × Cn)) (j : Nat) : plc pb (sF G) G.length (j + 1) = adr ⟨pb, 4, none⟩ (nds G) (j + 1) := by
  unfold plc
  by_cases h : j < G.length
  · rw [if_pos (by omega), adr_node (nds_get (List.getElem?_eq_getElem h)), sF_get (List.getElem?_eq_getElem h)]
  · rw [if_neg (by omega), adr_end (by rw [nds_len]; omega)]
theorem plc_bwd (pb : Nat) (G : List (Nat × Cn)) (j : Nat) (hj : j ≤ G.length) : plc pb (sB G) G.length (j + 1) = adr ⟨pb, 4, none⟩ (nds G) (G.length - j) := by
  unfold plc
  by_cases h : j < G.length
  · rw [if_pos (by omega)]
    obtain ⟨m, hm⟩ : ∃ m, G.length - j = m + 1 := ⟨G.length - j - 1, by omega⟩
    have hlt : m < G.length := by omega
    rw [hm, adr_node (nds_get (List.getElem?_eq_getElem hlt))]
    unfold sB
    rw [show G.length + 1 - (j + 1) = m + 1 by omega, sF_get (List.getElem?_eq_getElem hlt)]
  · rw [if_neg (by omega), show G.length - j = 0 by omega]; rfl
/-- What a quiet find tells, from the first on (back = false) or from the last. -/
def Found (G : List (Nat × Cn)) (p : Cn → Bool) (back : Bool) (e : Ending) : Prop :=
  (∃ (k : Nat) (x : Nat × Cn), G[k]? = some x ∧ p x.2 = true ∧ (∀ (i : Nat) (y : Nat × Cn), (if back then k < i else i < k) → G[i]? = some y → p y.2 = false) ∧ e = .returned (.pointer (some ⟨x.1, 0, none⟩))) ∨ ((∀ (i : Nat) (y : Nat × Cn), G[i]? = some y → p y.2 = false) ∧ e = .returned (.pointer none))
theorem callsSame {f : FuncId} {args : Array Value} {w : World} {v : Value} (h : Calls Try.prog f args w fun e w' => e = .returned v ∧ w = w') : Calls Try.prog f args w fun e w' => e = .returned v ∧ ∃ n, w' = w.drewN n :=
  h.mono fun _ _ ⟨h1, h2⟩ => ⟨h1, 0, by rw [← h2]; rfl⟩
set_option maxHeartbeats 1000000 in
theorem findFwd (B pb : Nat) (most each idle : Int) (G : List (Nat × Cn)) (K1 : FuncId) (caps : Array Value) (p : Cn → Bool) (w : World) (hp : PoolW w B pb most each idle G) (f1 : ∀ (args : Array Value) (W : World), (callFunc K1 args).run Try.prog W = .ok (.enter K1 args) W)
    (hq : ∀ (n k : Nat) (x : Nat × Cn), G[k]? = some x → Calls Try.prog K1 (#[.pointer (some ⟨x.1, 0, none⟩)] ++ caps) (w.drewN n) fun e w' => e = .returned (.bool (p x.2)) ∧ ∃ m, w' = w.drewN m) :
    Calls Try.prog 67 #[.pointer (some ⟨pb, 0, none⟩), .func (.func 68) #[] #[], .func (.func K1) #[] caps] w fun e w' => Found G p false e ∧ ∃ m, w' = w.drewN m := by
  refine (find_any pb 68 K1 caps G.length (sF G) (fun j => match G[j]? with | some x => p x.2 | none => false) (fun _ W => ∃ m, W = w.drewN m) w ⟨fun _ _ => by kernel_rfl, f1, ?_, ?_, ?_, ?_, ?_⟩ ⟨0, rfl⟩).mono ?_
  · rintro W ⟨m, rfl⟩
    obtain ⟨h1, _⟩ := (hp.drewN m).ring.nx (i := 0) (by omega) (b := pb) (o := 4) rfl
    rw [plc_fwd pb G 0]
    exact (after_any pb 4 _ (w.drewN m) h1).mono fun e w' ⟨a, b⟩ => ⟨a, m, b.symm⟩
  · rintro j W hj ⟨m, rfl⟩
    have hx := List.getElem?_eq_getElem hj
    rw [plc_fwd pb G (j + 1), sF_get hx]
    exact (after_any _ 0 _ (w.drewN m) ((hp.drewN m).node hx).2.2.2.2).mono fun e w' ⟨a, b⟩ => ⟨a, m, b.symm⟩
  · rintro j W hj ⟨m, rfl⟩
    have hx := List.getElem?_eq_getElem hj
    rw [sF_get hx]
    refine (hq m j _ hx).mono fun e w' ⟨a, b⟩ => ⟨?_, b⟩
    rw [a, hx]
  · rintro j W ⟨m, rfl⟩
    exact ⟨_, _, (hp.drewN m).ring.head⟩
  · rintro j W i ⟨m, rfl⟩ hi
    have hx := List.getElem?_eq_getElem hi
    rw [sF_get hx]
    exact ⟨hp.ring.nin _ (mem_get (nds_get hx)), _, _, (hp.drewN m).ring.blk i _ (nds_get hx)⟩
  · intro e w' h
    rcases h with ⟨j, hj, hb, hqj, he, hI⟩ | ⟨hb, he, hI⟩
    · have hx := List.getElem?_eq_getElem hj
      refine ⟨Or.inl ⟨j, _, hx, ?_, ?_, ?_⟩, hI⟩
      · simpa only [hx] using hqj
      · intro i y hi hy
        have := hb i (by simpa using hi)
        simpa only [hy] using this
      · rw [he, sF_get hx]
    · refine ⟨Or.inr ⟨?_, he⟩, hI⟩
      intro i y hy
      have := hb i (List.getElem?_eq_some_iff.1 hy).1
      simpa only [hy] using this
set_option maxHeartbeats 1000000 in
theorem findBwd (B pb : Nat) (most each idle : Int) (G : List (Nat × Cn)) (K1 : FuncId) (caps : Array Value) (p : Cn → Bool) (w : World) (hp : PoolW w B pb most each idle G) (f1 : ∀ (args : Array Value) (W : World), (callFunc K1 args).run Try.prog W = .ok (.enter K1 args) W)
    (hq : ∀ (n k : Nat) (x : Nat × Cn), G[k]? = some x → Calls Try.prog K1 (#[.pointer (some ⟨x.1, 0, none⟩)] ++ caps) (w.drewN n) fun e w' => e = .returned (.bool (p x.2)) ∧ ∃ m, w' = w.drewN m) :
    Calls Try.prog 67 #[.pointer (some ⟨pb, 0, none⟩), .func (.func 69) #[] #[], .func (.func K1) #[] caps] w fun e w' => Found G p true e ∧ ∃ m, w' = w.drewN m := by
  have hgb : ∀ j, j < G.length → ∃ x, G[G.length - 1 - j]? = some x ∧ sB G (j + 1) = x.1 ∧ G.length - 1 - j + 1 = G.length - j := by
    intro j hj
    have hlt : G.length - 1 - j < G.length := by omega
    have hx := List.getElem?_eq_getElem hlt
    refine ⟨_, hx, ?_, by omega⟩
    unfold sB
    rw [show G.length + 1 - (j + 1) = G.length - 1 - j + 1 by omega, sF_get hx]
  refine (find_any pb 69 K1 caps G.length (sB G) (fun j => match G[G.length - 1 - j]? with | some x => p x.2 | none => false) (fun _ W => ∃ m, W = w.drewN m) w ⟨fun _ _ => by kernel_rfl, f1, ?_, ?_, ?_, ?_, ?_⟩ ⟨0, rfl⟩).mono ?_
  · rintro W ⟨m, rfl⟩
    have e := adr_end (h := (⟨pb, 4, none⟩ : Addr)) (L := nds G) (i := G.length + 1) (by rw [nds_len]; omega)
    obtain ⟨h1, _⟩ := (hp.drewN m).ring.pv (i := G.length) (by rw [nds_len]; omega) (b := pb) (o := 4) e
    rw [plc_bwd pb G 0 (by omega)]
    exact (before_any pb 4 _ (w.drewN m) h1).mono fun e w' ⟨a, b⟩ => ⟨a, m, b.symm⟩
  · rintro j W hj ⟨m, rfl⟩
    obtain ⟨x, hx, hs, hl⟩ := hgb j hj
    rw [plc_bwd pb G (j + 1) (by omega), hs, show G.length - (j + 1) = G.length - 1 - j by omega]
    exact (before_any _ 0 _ (w.drewN m) ((hp.drewN m).node hx).2.2.2.1).mono fun e w' ⟨a, b⟩ => ⟨a, m, b.symm⟩
  · rintro j W hj ⟨m, rfl⟩
    obtain ⟨x, hx, hs, hl⟩ := hgb j hj
    rw [hs]
    refine (hq m _ _ hx).mono fun e w' ⟨a, b⟩ => ⟨?_, b⟩
    rw [a, hx]
  · rintro j W ⟨m, rfl⟩
    exact ⟨_, _, (hp.drewN m).ring.head⟩
  · rintro j W i ⟨m, rfl⟩ hi
    obtain ⟨x, hx, hs, hl⟩ := hgb i hi
    rw [hs]
    exact ⟨hp.ring.nin _ (mem_get (nds_get hx)), _, _, (hp.drewN m).ring.blk _ _ (nds_get hx)⟩
  · intro e w' h
    rcases h with ⟨j, hj, hb, hqj, he, hI⟩ | ⟨hb, he, hI⟩
    · obtain ⟨x, hx, hs, hl⟩ := hgb j hj
      refine ⟨Or.inl ⟨_, x, hx, ?_, ?_, ?_⟩, hI⟩
      · simpa only [hx] using hqj
      · intro i y hi hy
        have hi' : G.length - 1 - j < i := by simpa using hi
        have hil := (List.getElem?_eq_some_iff.1 hy).1
        have := hb (G.length - 1 - i) (by omega)
        simpa only [show G.length - 1 - (G.length - 1 - i) = i by omega, hy] using this
      · rw [he, hs]
    · refine ⟨Or.inr ⟨?_, he⟩, hI⟩
      intro i y hy
      have hil := (List.getElem?_eq_some_iff.1 hy).1
      have := hb (G.length - 1 - i) (by omega)
      simpa only [show G.length - 1 - (G.length - 1 - i) = i by omega, hy] using this
end Go.Proofs.Ytepedjnmliclkaa
