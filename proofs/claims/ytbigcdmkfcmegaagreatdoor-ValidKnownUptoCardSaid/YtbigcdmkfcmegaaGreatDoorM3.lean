/- Joined texts: fields.is and the closures of fields.Without; slices.IndexFunc and ContainsFunc at texts, whatever predicate. The conditions stand in each line. -/
import Derived.Test.YtbigcdmkfcmegaaGreatDoorChecked
import Derived.Test.YtbigcdmkfcmegaaGreatDoorM1
import Derived.Test.YtbigcdmkfcmegaaGreatDoorM2
import Derived.Deep.Cut
import Derived.Deep.DeepCutAuto
set_option linter.unusedVariables false
set_option linter.unusedSimpArgs false
namespace Go.Proofs.YtbigcdmkfcmegaaGreatDoor
open Go.RowKit

def isB (f : Fld) (name : List UInt8) : Bool := fold f.1 == fold name
set_option maxHeartbeats 400000 in
theorem is_any (n v : List UInt8) (s : List UInt8) (w : World) (hn : n.length ≤ 140737488355328) (hs : s.length ≤ 140737488355328) :
    Calls Tryz.prog 45 #[.agg #[.string (bs n), .string (bs v)], .string (bs s)] w fun e w' => e = .returned (.bool (isB (n, v) s)) ∧ Below w.heap.size w w' := by
  go_enter Tryz.func45, Tryz.ntmps45
  go_wp2_with fail
  refine (fold_any n _ hn).mono ?_
  rintro e w1 ⟨rfl, hb1⟩
  go_wp2_with fail
  refine (fold_any s _ hs).mono ?_
  rintro e w2 ⟨rfl, hb2⟩
  go_wp2
  go_ret
  exact ⟨rfl, bnext (bnext (alloc_below _ _) hb1 (by simp)) hb2 (by have := hb1.size; simp at this; omega)⟩

set_option maxHeartbeats 400000 in
theorem w11_any (g : Nat) (n v : List UInt8) (s : List UInt8) (w : World) (h1 : w.cell? ⟨g, 0, none⟩ = some (.string (bs n))) (h2 : w.cell? ⟨g, 1, none⟩ = some (.string (bs v))) (hn : n.length ≤ 140737488355328) (hs : s.length ≤ 140737488355328) :
    Calls Tryz.prog 44 #[.string (bs s), .pointer (some ⟨g, 0, none⟩)] w fun e w' => e = .returned (.bool (isB (n, v) s)) ∧ Below w.heap.size w w' := by
  go_enter Tryz.func44, Tryz.ntmps44
  go_wp2_with fail
  refine (is_any n v s _ hn hs).mono ?_
  rintro e w1 ⟨rfl, hb1⟩
  go_wp2
  go_ret
  exact ⟨rfl, hb1⟩
/-- The first place at which p holds, -1: there is none. -/
def idxI {α : Type} (p : α → Bool) (l : List α) : Int := match l.findIdx? p with | some i => i | none => -1
theorem idxI_none {α : Type} {p : α → Bool} {l : List α} (h : l.any p = false) : idxI p l = -1 := by
  unfold idxI
  have : l.findIdx? p = none := by
    rw [List.findIdx?_eq_none_iff]
    intro x hx
    rw [Bool.eq_false_iff]
    intro hp
    rw [Bool.eq_false_iff] at h
    exact h (List.any_eq_true.2 ⟨x, hx, hp⟩)
  rw [this]
theorem idxI_some {α : Type} {p : α → Bool} {l : List α} {k : Nat} {x : α} (h : (l.take k).any p = false) (hx : l[k]? = some x) (hp : p x = true) : idxI p l = k := by
  unfold idxI
  have : l.findIdx? p = some k := by
    rw [List.findIdx?_eq_some_iff_getElem]
    obtain ⟨hk, rfl⟩ := List.getElem?_eq_some_iff.1 hx
    refine ⟨hk, hp, fun j hj => ?_⟩
    have hm := List.any_eq_false.1 h (l[j]'(by omega)) (List.mem_take_iff_getElem.2 ⟨j, by omega, rfl⟩)
    simpa using hm
  rw [this]
theorem idxI_ge {α : Type} (p : α → Bool) (l : List α) : decide (0 ≤ idxI p l) = l.any p := by
  cases h : l.any p with
  | false => rw [idxI_none h]; rfl
  | true =>
    unfold idxI
    cases hf : l.findIdx? p with
    | none =>
      rw [List.findIdx?_eq_none_iff] at hf
      obtain ⟨x, hx, hp⟩ := List.any_eq_true.1 h
      rw [hf x hx] at hp; cases hp
    | some i => simp
/-- A function value that, called with a text at any later world, tells p of it and makes at most memory. -/
def PredS (w : World) (K : FuncId) (caps : Array Value) (p : List UInt8 → Bool) : Prop :=
  (∀ (args : Array Value) (W : World), (callFunc K args).run Tryz.prog W = .ok (.enter K args) W) ∧ ∀ (W : World) (s : List UInt8), Below w.heap.size w W → s.length ≤ 140737488355328 → Calls Tryz.prog K (#[.string (bs s)] ++ caps) W fun e w' => e = .returned (.bool (p s)) ∧ Below W.heap.size W w'
set_option maxHeartbeats 400000 in
theorem indexFuncS_any (A : Option Addr) (n c : Nat) (l : List (List UInt8)) (K : FuncId) (caps : Array Value) (p : List UInt8 → Bool) (w0 w : World) (hw0 : Below w0.heap.size w0 w) (hl : RdS w A n l) (hn : n ≤ 140737488355328) (hls : ∀ s ∈ l, s.length ≤ 140737488355328)
    (hp : PredS w0 K caps p) :
    Calls Tryz.prog 47 #[.slice A n c, .func (.func K) #[] caps] w fun e w' => e = .returned (.int .i64 (idxI p l)) ∧ Below w.heap.size w w' := by
  have HN : Hid (∀ k x, (l.take k).any p = false → l[k]? = some x → p x = true → idxI p l = k) := Lib.hid fun k x h1 h2 h3 => idxI_some h1 h2 h3
  have HE : Hid ((l.take n).any p = false → idxI p l = -1) := Lib.hid fun h => idxI_none (by rwa [List.take_of_length_le (by rw [hl.1]; exact Nat.le_refl _)] at h)
  go_enter Tryz.func47, Tryz.ntmps47
  go_wp2_with fail
  go_loopw [8] (fun t wr => ∃ k : Nat, k ≤ n ∧ t = .int .i64 k ∧ (l.take k).any p = false ∧ Below w.heap.size w wr ∧ Below w0.heap.size w0 wr) (fun t _ => n - (intOf t).toNat)
  case atStart => exact ⟨0, by omega, rfl, by simp, Below.refl _ _, hw0⟩
  case round =>
    obtain ⟨k, hk, rfl, hall, hbr, hbr0⟩ := hrel
    have HA := Lib.hid hall
    clear hall
    by_cases hlt : k < n
    · obtain ⟨g, o, s, rfl, hg, HX, hc⟩ := (hl.step hbr).at_ hlt
      clear hl
      have hsl : s.length ≤ 140737488355328 := hls _ (mem_of_get? HX.out)
      have HT : Hid ((l.take (k + 1)).any p = p s) := Lib.hid (by rw [take_snoc? HX.out, List.any_append, HA.out]; simp)
      clear hls
      have hcf := hp.1
      have HP : Hid (p s = true → idxI p l = k) := Lib.hid (HN.out k s HA.out HX.out)
      go_wp2_with fail
      refine (hp.2 wr s hbr0 hsl).mono ?_
      rintro e w1 ⟨rfl, hb1⟩
      cases hps : p s
      · have HPS := Lib.hid hps
        go_wp2
        go_roundw
        case rel => exact ⟨k + 1, by omega, by go_num, by rw [HT.out, HPS.out], bnext hbr hb1 hbr.size, bnext hbr0 hb1 hbr0.size⟩
        case measure => simp [intOf]; omega
      · have HPS := Lib.hid hps
        go_wp2
        go_ret
        exact ⟨ret_int (HP.out HPS.out).symm, bnext hbr hb1 hbr.size⟩
    · obtain rfl : k = n := by omega
      go_wp2
      go_ret
      exact ⟨ret_int (HE.out HA.out).symm, hbr⟩
set_option maxHeartbeats 400000 in
theorem containsFuncS_any (A : Option Addr) (n c : Nat) (l : List (List UInt8)) (K : FuncId) (caps : Array Value) (p : List UInt8 → Bool) (w0 w : World) (hw0 : Below w0.heap.size w0 w) (hl : RdS w A n l) (hn : n ≤ 140737488355328) (hls : ∀ s ∈ l, s.length ≤ 140737488355328)
    (hp : PredS w0 K caps p) :
    Calls Tryz.prog 30 #[.slice A n c, .func (.func K) #[] caps] w fun e w' => e = .returned (.bool (l.any p)) ∧ Below w.heap.size w w' := by
  have HE := Lib.hid (idxI_ge p l)
  go_enter Tryz.func30, Tryz.ntmps30
  go_wp2_with fail
  refine (indexFuncS_any A n c l K caps p w0 _ hw0 hl hn hls hp).mono ?_
  rintro e w1 ⟨rfl, hb1⟩
  go_wp2
  go_ret
  exact ⟨ret_bool HE.out, hb1⟩
end Go.Proofs.YtbigcdmkfcmegaaGreatDoor
