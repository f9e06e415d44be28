/- Joined texts: The boundary of several ranges in plain Lean: the first mark that the body does not hold; there is one; fields.is and the closures of fields.Without; slices.IndexFunc and ContainsFunc at texts, whatever predicate; fields.Values: all values of a name; SameTexts: equal lists; The reference's List: the elements of a list. The conditions stand in each line. -/
import Derived.Test.YtcaekfebnhedpaaGreatDoorChecked
import Derived.Test.YtcaekfebnhedpaaGreatDoorM1
import Derived.Test.YtcaekfebnhedpaaGreatDoorM2
import Derived.Test.YtcaekfebnhedpaaGreatDoorM3
import Derived.Test.YtcaekfebnhedpaaGreatDoorM6
import Derived.Test.YtcaekfebnhedpaaGreatDoorM13
import Derived.Deep.Cut
import Derived.Deep.DeepCutAuto
import Derived.Deep.QuietTactic
import Derived.BigQuiet
set_option linter.unusedVariables false
set_option linter.unusedSimpArgs false
namespace Go.Proofs.YtcaekfebnhedpaaGreatDoor
open Go.RowKit

set_option maxRecDepth 100000
namespace Rg
/-- Does s stand in b at i? in b? -/
def atB (s b : List UInt8) (i : Nat) : Bool := (b.drop i).take s.length == s
def occB (s b : List UInt8) : Bool := (List.range (b.length + 1 - s.length)).any (atB s b)
/-- An injection of the first m numbers into the first n. -/
theorem pigeon : ∀ (m n : Nat) (f : Nat → Nat), (∀ i, i < m → f i < n) → (∀ i j, i < m → j < m → f i = f j → i = j) → m ≤ n
  | 0, _, _, _, _ => Nat.zero_le _
  | m + 1, 0, f, h1, _ => absurd (h1 0 (by omega)) (by omega)
  | m + 1, n + 1, f, h1, h2 => by
    -- the last one's place is filled by n
    have ih := pigeon m n (fun i => if f i = n then f m else f i) (fun i hi => by
      split
      · rename_i h
        have h3 := h1 m (by omega)
        have h4 : f m ≠ n := fun e => by have := h2 i m (by omega) (by omega) (by rw [h, e]); omega
        omega
      · have := h1 i (by omega); omega) (fun i j hi hj e => by
      split at e <;> split at e
      · rename_i h5 h6
        exact h2 i j (by omega) (by omega) (by rw [h5, h6])
      · exact absurd (h2 m j (by omega) (by omega) e) (by omega)
      · exact absurd (h2 i m (by omega) (by omega) e) (by omega)
      · exact h2 i j (by omega) (by omega) e)
    omega
theorem at_eq {s t b : List UInt8} {i : Nat} (hl : s.length = t.length) (h1 : atB s b i = true) (h2 : atB t b i = true) : s = t := by
  unfold atB at *
  rw [← eq_of_beq h1, ← eq_of_beq h2, hl]
/-- Among more texts of one length than there are places, one does not occur. -/
theorem occ_not (b : List UInt8) (L : Nat) (hL : 1 ≤ L) (T : Nat → List UInt8) (base : Nat) (hlen : ∀ i, i ≤ b.length → (T (base + i)).length = L) (hinj : ∀ i j, i ≤ b.length → j ≤ b.length → T (base + i) = T (base + j) → i = j) :
    ∃ i, i ≤ b.length ∧ occB (T (base + i)) b = false := by
  apply Classical.byContradiction
  intro hno
  have hall : ∀ i, i ≤ b.length → ∃ k, k < b.length ∧ atB (T (base + i)) b k = true := by
    intro i hi
    have ho : occB (T (base + i)) b = true := by
      cases h : occB (T (base + i)) b with
      | true => rfl
      | false => exact absurd ⟨i, hi, h⟩ hno
    unfold occB at ho
    obtain ⟨k, hk, hp⟩ := List.any_eq_true.1 ho
    rw [List.mem_range, hlen i hi] at hk
    exact ⟨k, by omega, hp⟩
  have hf : ∀ i, ∃ k, i ≤ b.length → (k < b.length ∧ atB (T (base + i)) b k = true) := fun i => by
    by_cases hi : i ≤ b.length
    · obtain ⟨k, hk⟩ := hall i hi
      exact ⟨k, fun _ => hk⟩
    · exact ⟨0, fun h => absurd h hi⟩
  let f : Nat → Nat := fun i => Classical.choose (hf i)
  have hs : ∀ i, i ≤ b.length → (f i < b.length ∧ atB (T (base + i)) b (f i) = true) := fun i => Classical.choose_spec (hf i)
  have := pigeon (b.length + 1) b.length f (fun i hi => (hs i (by omega)).1) (fun i j hi hj e => by
    have h1 := (hs i (by omega)).2
    have h2 := (hs j (by omega)).2
    rw [← e] at h2
    exact hinj i j (by omega) (by omega) (at_eq (by rw [hlen i (by omega), hlen j (by omega)]) h1 h2))
  omega
/-- The first number from k on that p holds for, among fuel. -/
def firstN (p : Nat → Bool) : Nat → Nat → Nat
  | 0, k => k
  | f + 1, k => if p k = true then k else firstN p f (k + 1)
theorem firstN_spec (p : Nat → Bool) : ∀ (f k : Nat), (∃ n, k ≤ n ∧ n < k + f ∧ p n = true) → k ≤ firstN p f k ∧ firstN p f k < k + f ∧ p (firstN p f k) = true ∧ ∀ j, k ≤ j → j < firstN p f k → p j = false
  | 0, k, ⟨n, h1, h2, _⟩ => by omega
  | f + 1, k, ⟨n, h1, h2, h3⟩ => by
    unfold firstN
    by_cases hk : p k = true
    · rw [if_pos hk]
      exact ⟨Nat.le_refl _, by omega, hk, fun j h4 h5 => by omega⟩
    · rw [if_neg hk]
      have hne : n ≠ k := fun e => hk (e ▸ h3)
      obtain ⟨a1, a2, a3, a4⟩ := firstN_spec p f (k + 1) ⟨n, by omega, by omega, h3⟩
      refine ⟨by omega, by omega, a3, fun j h4 h5 => ?_⟩
      by_cases hj : j = k
      · subst hj; simpa using hk
      · exact a4 j (by omega) h5
abbrev conT : List UInt8 := [99, 111, 110, 100, 117, 105, 116, 45]
abbrev dashT : List UInt8 := [45, 45]
def markT (n : Nat) : List UInt8 := conT ++ Lib.decDigits n
def freeB (b : List UInt8) (n : Nat) : Bool := !occB (dashT ++ markT n) b
/-- The number of the boundary. -/
def markN (b : List UInt8) : Nat := firstN (freeB b) 100000000 0
theorem dec_inj {m n : Nat} (h : Lib.decDigits m = Lib.decDigits n) : m = n := by
  have key : ∀ k, (Lib.decDigits k).foldl (fun (v : Nat) (c : UInt8) => v * 10 + (c.toNat - 48)) 0 = k := by
    intro k
    induction k using Nat.strongRecOn with
    | _ k ih =>
      rw [Lib.decDigits]
      have hd : ∀ j, j < 10 → (UInt8.ofNat (48 + j)).toNat = 48 + j := fun j hj => by rw [UInt8.toNat_ofNat']; omega
      split
      · have := hd k (by omega)
        simp only [List.foldl_cons, List.foldl_nil]
        rw [this]; omega
      · rw [List.foldl_append, ih (k / 10) (by omega)]
        have := hd (k % 10) (by omega)
        simp only [List.foldl_cons, List.foldl_nil]
        rw [this]; omega
  rw [← key m, ← key n, h]
theorem dec_eight {k : Nat} (h1 : 10000000 ≤ k) (h2 : k < 100000000) : (Lib.decDigits k).length = 8 := by
  have step : ∀ k, 10 ≤ k → (Lib.decDigits k).length = (Lib.decDigits (k / 10)).length + 1 := fun k hk => by
    rw [Lib.decDigits, dif_neg (by omega), List.length_append]; rfl
  rw [step k (by omega), step _ (by omega), step _ (by omega), step _ (by omega), step _ (by omega), step _ (by omega), step _ (by omega), Lib.decDigits_one (by omega)]
  rfl
/-- There is a mark that the body does not hold, and markN is the first. -/
theorem mark_spec {b : List UInt8} (hb : b.length ≤ 4194304) : markN b < 100000000 ∧ occB (dashT ++ markT (markN b)) b = false ∧ ∀ j, j < markN b → occB (dashT ++ markT j) b = true := by
  have hlen : ∀ i, i ≤ b.length → (dashT ++ markT (10000000 + i)).length = 18 := fun i hi => by
    unfold markT
    rw [List.length_append, List.length_append, dec_eight (by omega) (by omega)]
    rfl
  obtain ⟨i, hi, ho⟩ := occ_not b 18 (by omega) (fun n => dashT ++ markT n) 10000000 hlen (fun i j _ _ e => by
    have e2 := List.append_cancel_left e
    unfold markT at e2
    have := dec_inj (List.append_cancel_left e2)
    omega)
  have hs := firstN_spec (freeB b) 100000000 0 ⟨10000000 + i, by omega, by omega, by unfold freeB; rw [ho]; rfl⟩
  refine ⟨by have := hs.2.1; unfold markN; omega, ?_, fun j hj => ?_⟩
  · have h2 : (!occB (dashT ++ markT (markN b)) b) = true := hs.2.2.1
    generalize occB (dashT ++ markT (markN b)) b = x at *
    cases x
    · rfl
    · cases h2
  · have h2 : (!occB (dashT ++ markT j) b) = false := hs.2.2.2 j (by omega) hj
    generalize occB (dashT ++ markT j) b = x at *
    cases x
    · cases h2
    · rfl
end Rg
end Go.Proofs.YtcaekfebnhedpaaGreatDoor
set_option linter.unusedVariables false
set_option linter.unusedSimpArgs false
namespace Go.Proofs.YtcaekfebnhedpaaGreatDoor
open Go.RowKit

def isB (f : Fld) (name : List UInt8) : Bool := fold f.1 == fold name
set_option maxHeartbeats 400000 in
theorem is_any (n v : List UInt8) (s : List UInt8) (w : World) (hn : n.length ≤ 140737488355328) (hs : s.length ≤ 140737488355328) :
    Calls Tryz.prog 50 #[.agg #[.string (bs n), .string (bs v)], .string (bs s)] w fun e w' => e = .returned (.bool (isB (n, v) s)) ∧ Below w.heap.size w w' := by
  go_enter Tryz.func50, Tryz.ntmps50
  go_wp2_with fail
  refine (fold_any n _ hn).mono ?_
  rintro e w1 ⟨rfl, hb1⟩
  go_wp2_with fail
  refine (fold_any s _ hs).mono ?_
  rintro e w2 ⟨rfl, hb2⟩
  go_wp2
  go_ret
  exact ⟨rfl, bnext (bnext (alloc_below _ _) hb1 (by simp)) hb2 (by have := hb1.size; simp at this; omega)⟩

set_option maxHeartbeats 400000 in
theorem w11_any (g : Nat) (n v : List UInt8) (s : List UInt8) (w : World) (h1 : w.cell? ⟨g, 0, none⟩ = some (.string (bs n))) (h2 : w.cell? ⟨g, 1, none⟩ = some (.string (bs v))) (hn : n.length ≤ 140737488355328) (hs : s.length ≤ 140737488355328) :
    Calls Tryz.prog 61 #[.string (bs s), .pointer (some ⟨g, 0, none⟩)] w fun e w' => e = .returned (.bool (isB (n, v) s)) ∧ Below w.heap.size w w' := by
  go_enter Tryz.func61, Tryz.ntmps61
  go_wp2_with fail
  refine (is_any n v s _ hn hs).mono ?_
  rintro e w1 ⟨rfl, hb1⟩
  go_wp2
  go_ret
  exact ⟨rfl, hb1⟩
/-- The first place at which p holds, -1: there is none. -/
def idxI {α : Type} (p : α → Bool) (l : List α) : Int := match l.findIdx? p with | some i => i | none => -1
theorem idxI_none {α : Type} {p : α → Bool} {l : List α} (h : l.any p = false) : idxI p l = -1 := by
  unfold idxI
  have : l.findIdx? p = none := by
    rw [List.findIdx?_eq_none_iff]
    intro x hx
    rw [Bool.eq_false_iff]
    intro hp
    rw [Bool.eq_false_iff] at h
    exact h (List.any_eq_true.2 ⟨x, hx, hp⟩)
  rw [this]
theorem idxI_some {α : Type} {p : α → Bool} {l : List α} {k : Nat} {x : α} (h : (l.take k).any p = false) (hx : l[k]? = some x) (hp : p x = true) : idxI p l = k := by
  unfold idxI
  have : l.findIdx? p = some k := by
    rw [List.findIdx?_eq_some_iff_getElem]
    obtain ⟨hk, rfl⟩ := List.getElem?_eq_some_iff.1 hx
    refine ⟨hk, hp, fun j hj => ?_⟩
    have hm := List.any_eq_false.1 h (l[j]'(by omega)) (List.mem_take_iff_getElem.2 ⟨j, by omega, rfl⟩)
    simpa using hm
  rw [this]
theorem idxI_ge {α : Type} (p : α → Bool) (l : List α) : decide (0 ≤ idxI p l) = l.any p := by
  cases h : l.any p with
  | false => rw [idxI_none h]; rfl
  | true =>
    unfold idxI
    cases hf : l.findIdx? p with
    | none =>
      rw [List.findIdx?_eq_none_iff] at hf
      obtain ⟨x, hx, hp⟩ := List.any_eq_true.1 h
      rw [hf x hx] at hp; cases hp
    | some i => simp
/-- A function value that, called with a text at any later world, tells p of it and makes at most memory. -/
def PredS (w : World) (K : FuncId) (caps : Array Value) (p : List UInt8 → Bool) : Prop :=
  (∀ (args : Array Value) (W : World), (callFunc K args).run Tryz.prog W = .ok (.enter K args) W) ∧ ∀ (W : World) (s : List UInt8), Below w.heap.size w W → s.length ≤ 140737488355328 → Calls Tryz.prog K (#[.string (bs s)] ++ caps) W fun e w' => e = .returned (.bool (p s)) ∧ Below W.heap.size W w'
set_option maxHeartbeats 400000 in
theorem indexFuncS_any (A : Option Addr) (n c : Nat) (l : List (List UInt8)) (K : FuncId) (caps : Array Value) (p : List UInt8 → Bool) (w0 w : World) (hw0 : Below w0.heap.size w0 w) (hl : RdS w A n l) (hn : n ≤ 140737488355328) (hls : ∀ s ∈ l, s.length ≤ 140737488355328)
    (hp : PredS w0 K caps p) :
    Calls Tryz.prog 87 #[.slice A n c, .func (.func K) #[] caps] w fun e w' => e = .returned (.int .i64 (idxI p l)) ∧ Below w.heap.size w w' := by
  have HN : Hid (∀ k x, (l.take k).any p = false → l[k]? = some x → p x = true → idxI p l = k) := Lib.hid fun k x h1 h2 h3 => idxI_some h1 h2 h3
  have HE : Hid ((l.take n).any p = false → idxI p l = -1) := Lib.hid fun h => idxI_none (by rwa [List.take_of_length_le (by rw [hl.1]; exact Nat.le_refl _)] at h)
  go_enter Tryz.func87, Tryz.ntmps87
  go_wp2_with fail
  go_loopw [8] (fun t wr => ∃ k : Nat, k ≤ n ∧ t = .int .i64 k ∧ (l.take k).any p = false ∧ Below w.heap.size w wr ∧ Below w0.heap.size w0 wr) (fun t _ => n - (intOf t).toNat)
  case atStart => exact ⟨0, by omega, rfl, by simp, Below.refl _ _, hw0⟩
  case round =>
    obtain ⟨k, hk, rfl, hall, hbr, hbr0⟩ := hrel
    have HA := Lib.hid hall
    clear hall
    by_cases hlt : k < n
    · obtain ⟨g, o, s, rfl, hg, HX, hc⟩ := (hl.step hbr).at_ hlt
      clear hl
      have hsl : s.length ≤ 140737488355328 := hls _ (mem_of_get? HX.out)
      have HT : Hid ((l.take (k + 1)).any p = p s) := Lib.hid (by rw [take_snoc? HX.out, List.any_append, HA.out]; simp)
      clear hls
      have hcf := hp.1
      have HP : Hid (p s = true → idxI p l = k) := Lib.hid (HN.out k s HA.out HX.out)
      go_wp2_with fail
      refine (hp.2 wr s hbr0 hsl).mono ?_
      rintro e w1 ⟨rfl, hb1⟩
      cases hps : p s
      · have HPS := Lib.hid hps
        go_wp2
        go_roundw
        case rel => exact ⟨k + 1, by omega, by go_num, by rw [HT.out, HPS.out], bnext hbr hb1 hbr.size, bnext hbr0 hb1 hbr0.size⟩
        case measure => simp [intOf]; omega
      · have HPS := Lib.hid hps
        go_wp2
        go_ret
        exact ⟨ret_int (HP.out HPS.out).symm, bnext hbr hb1 hbr.size⟩
    · obtain rfl : k = n := by omega
      go_wp2
      go_ret
      exact ⟨ret_int (HE.out HA.out).symm, hbr⟩
set_option maxHeartbeats 400000 in
theorem containsFuncS_any (A : Option Addr) (n c : Nat) (l : List (List UInt8)) (K : FuncId) (caps : Array Value) (p : List UInt8 → Bool) (w0 w : World) (hw0 : Below w0.heap.size w0 w) (hl : RdS w A n l) (hn : n ≤ 140737488355328) (hls : ∀ s ∈ l, s.length ≤ 140737488355328)
    (hp : PredS w0 K caps p) :
    Calls Tryz.prog 60 #[.slice A n c, .func (.func K) #[] caps] w fun e w' => e = .returned (.bool (l.any p)) ∧ Below w.heap.size w w' := by
  have HE := Lib.hid (idxI_ge p l)
  go_enter Tryz.func60, Tryz.ntmps60
  go_wp2_with fail
  refine (indexFuncS_any A n c l K caps p w0 _ hw0 hl hn hls hp).mono ?_
  rintro e w1 ⟨rfl, hb1⟩
  go_wp2
  go_ret
  exact ⟨ret_bool HE.out, hb1⟩
end Go.Proofs.YtcaekfebnhedpaaGreatDoor
set_option linter.unusedVariables false
set_option linter.unusedSimpArgs false
namespace Go.Proofs.YtcaekfebnhedpaaGreatDoor
open Go.RowKit

def valuesL (l : List Fld) (name : List UInt8) : List (List UInt8) := (l.filter fun f => isB f name).map Prod.snd
theorem values_snoc {l : List Fld} {k : Nat} {x : Fld} {name : List UInt8} (h : l[k]? = some x) : valuesL (l.take (k + 1)) name = valuesL (l.take k) name ++ (if isB x name = true then [x.2] else []) := by
  unfold valuesL
  rw [take_snoc? h, List.filter_append, List.map_append]
  congr 1
  simp only [List.filter_cons, List.filter_nil]
  split <;> rfl
theorem values_le (l : List Fld) (name : List UInt8) : (valuesL l name).length ≤ l.length := by unfold valuesL; rw [List.length_map]; exact List.length_filter_le _ _

set_option maxHeartbeats 1000000 in
theorem values_own (A : Option Addr) (n c : Nat) (l : List Fld) (name : List UInt8) (w : World) (hl : RdF w A n l) (hn : n * 32 ≤ 140737488355328) (hls : FlenOK l) (hnm : name.length ≤ 140737488355328) :
    Calls Tryz.prog 25 #[.slice A n c, .string (bs name)] w fun e w' => ∃ A' n' c', e = .returned (.slice A' n' c') ∧ OwnS w' w.heap.size (.slice A' n' c') (valuesL l name) ∧ Below w.heap.size w w' := by
  have HF : Hid (valuesL (l.take n) name = valuesL l name) := Lib.hid (by rw [List.take_of_length_le (by rw [hl.1]; exact Nat.le_refl _)])
  go_enter Tryz.func25, Tryz.ntmps25
  go_wp2
  go_loopw [5, 10] (fun v t wr => ∃ (k : Nat) (A' : Option Addr) (n' c' : Nat), k ≤ n ∧ t = .int .i64 k ∧ v = .slice A' n' c' ∧ OwnS wr w.heap.size (.slice A' n' c') (valuesL (l.take k) name) ∧ Below w.heap.size w wr) (fun _ t _ => n - (intOf t).toNat)
  case atStart => exact ⟨0, _, _, _, by omega, rfl, rfl, OwnS.nil _ _, Below.refl _ _⟩
  case round =>
    obtain ⟨k, A', n', c', hk, rfl, rfl, hown, hbr⟩ := hrel
    by_cases hlt : k < n
    · obtain ⟨g, o, nm, vl, rfl, hg, HX, hc1, hc2⟩ := (hl.step hbr).at_ hlt
      have hsl := hls _ (mem_of_get? HX.out)
      have hsl1 : nm.length ≤ 140737488355328 := hsl.1
      clear hsl
      have HS := Lib.hid (values_snoc (name := name) HX.out)
      have HL : Hid ((valuesL (l.take k) name).length ≤ k) := Lib.hid (by have := values_le (l.take k) name; simp at this; omega)
      go_wp2_with fail
      refine (is_any nm vl name _ hsl1 hnm).mono ?_
      rintro e w2 ⟨rfl, hb2⟩
      have hal := alloc_below wr (.cells #[.string (bs nm), .string (bs vl)] 46)
      have hv2 : w2.cell? ⟨wr.heap.size, 1, none⟩ = some (.string (bs vl)) := by rw [hb2.cell (p := ⟨wr.heap.size, 1, none⟩) (by simp), cell_of_row _ _ _ _ _ _ (heap_alloc_new wr _)]; rfl
      have hown2 := (hown.step hal).step hb2
      have hbr2 := bnext (bnext hbr hal hbr.size) hb2 (by have := hbr.size; simp; omega)
      clear hal hb2
      cases hpv : isB (nm, vl) name
      · have HPV := Lib.hid hpv
        clear hpv
        go_wp2
        go_roundw
        case rel => exact ⟨k + 1, A', n', c', by omega, by go_num, rfl, by rw [HS.out]; simp only [HPV.out, Bool.false_eq_true, if_false, List.append_nil]; exact hown2, hbr2⟩
        case measure => simp [intOf]; omega
      · have HPV := Lib.hid hpv
        clear hpv
        go_wp2_with
          (at_builtin
           refine wp_appS rfl (.tmp 17) (.tmp 20) rfl w.heap.size (.slice A' n' c') _ rfl (hown2.step (alloc_below _ _)) _ 1 1 [vl] rfl ?hr ?hby ?hbase ?_
           case hr => exact one_rdS' _ _ _ _ (by simp)
           case hby => have := HL.out; omega
           case hbase => have := hbr2.size; simp; omega
           intro A3 n3 c3 w3 hown3 hb3 hn3)
        go_roundw
        case rel => exact ⟨k + 1, A3, n3, c3, by omega, by go_num, rfl, by rw [HS.out]; simp only [HPV.out, if_true]; exact hown3, (bnext hbr2 (alloc_below _ _) hbr2.size).trans hb3⟩
        case measure => simp [intOf]; omega
    · obtain rfl : k = n := by omega
      go_wp2
      go_ret
      exact ⟨A', n', c', rfl, by rw [← HF.out]; exact hown, hbr⟩

end Go.Proofs.YtcaekfebnhedpaaGreatDoor
set_option linter.unusedVariables false
set_option linter.unusedSimpArgs false
namespace Go.Proofs.YtcaekfebnhedpaaGreatDoor
open Go.RowKit

set_option maxHeartbeats 1000000 in
theorem listR_own (s : List UInt8) (w : World) (hs : s.length ≤ 4398046511104) :
    Calls Tryz.prog 33 #[.string (bs s)] w fun e w' => ∃ A' n' c', e = .returned (.slice A' n' c') ∧ OwnS w' w.heap.size (.slice A' n' c') (listL s) ∧ Below w.heap.size w w' := by
  have HL : Hid ((splitL 44 s).length ≤ s.length + 1) := Lib.hid (split_len 44 s)
  have HE : Hid (∀ (k : Nat) x, (splitL 44 s)[k]? = some x → x.length ≤ s.length) := Lib.hid fun k x h => split_each 44 s h
  have HF : Hid (∀ l, l = splitL 44 s → keepE (l.map trimL) = listL s) := Lib.hid (fun l h => by rw [h]; rfl)
  go_enter Tryz.func33, Tryz.ntmps33
  go_wp2_with fail
  refine (pieces_own s 44 w hs).mono ?_
  rintro e w1 ⟨A, n, c, rfl, hS, hb1⟩
  have hrd := hS.rd
  clear hS
  generalize splitL 44 s = L at *
  have HF2 : Hid (keepE ((L.take n).map trimL) = listL s) := Lib.hid (by rw [List.take_of_length_le (by rw [hrd.1]; exact Nat.le_refl _)]; exact HF.out L rfl)
  have hnl : n ≤ s.length + 1 := by have := HL.out; rw [hrd.1] at this; exact this
  clear HF HL
  go_upto_region 3 with fail
  have hm := OwnS.made w1
  have hbm := alloc_below w1 (.cells #[] 9)
  go_wp2
  go_loopw [4, 5] (fun v t wr => ∃ (k : Nat) (A' : Option Addr) (n' c' : Nat), k ≤ n ∧ t = .int .i64 k ∧ v = .slice A' n' c' ∧ OwnS wr w1.heap.size (.slice A' n' c') (keepE ((L.take k).map trimL)) ∧ Below w1.heap.size w1 wr) (fun _ t _ => n - (intOf t).toNat)
  case atStart => exact ⟨0, _, _, _, by omega, rfl, rfl, hm, hbm⟩
  case round =>
    obtain ⟨k, A', n', c', hk, rfl, rfl, hown, hbr⟩ := hrel
    clear hm hbm
    by_cases hlt : k < n
    · obtain ⟨g, o, x, rfl, hg, HX, hc1⟩ := (hrd.step hbr).at_ hlt
      have hxl := HE.out k x HX.out
      have HS : Hid (keepE ((L.take (k + 1)).map trimL) = keepE ((L.take k).map trimL) ++ (if (!(trimL x).isEmpty) = true then [trimL x] else [])) := Lib.hid (by
        rw [take_snoc? HX.out, List.map_append]; unfold keepE; rw [List.filter_append]; simp only [List.map_cons, List.map_nil, List.filter_cons, List.filter_nil])
      have HK : Hid ((keepE ((L.take k).map trimL)).length ≤ k) := Lib.hid (by have := keepE_le ((L.take k).map trimL); rw [List.length_map, List.length_take] at this; omega)
      clear hrd HE
      go_wp2_with fail
      refine (trimR_any x _ (by omega)).mono ?_
      rintro e w2 ⟨rfl, rfl⟩
      generalize trimL x = y at *
      cases hx : (!y.isEmpty)
      · have HX2 := Lib.hid hx
        go_wp2
        go_roundw
        case rel => exact ⟨k + 1, A', n', c', by omega, by go_num, rfl, by rw [HS.out]; simp only [HX2.out, Bool.false_eq_true, if_false, List.append_nil]; exact hown, hbr⟩
        case measure => simp [intOf]; omega
      · have HX2 := Lib.hid hx
        go_wp2_with
          (at_builtin
           refine wp_appS rfl (.tmp 23) (.tmp 25) rfl w1.heap.size (.slice A' n' c') _ rfl (hown.step (alloc_below _ _)) _ 1 1 [y] rfl ?hr ?hby ?hbase ?_
           case hr => exact one_rdS' _ _ _ _ (by simp)
           case hby => have := HK.out; omega
           case hbase => have := hbr.size; simp; omega
           intro A3 n3 c3 w3 hown3 hb3 hn3)
        go_roundw
        case rel => exact ⟨k + 1, A3, n3, c3, by omega, by go_num, rfl, by rw [HS.out]; simp only [HX2.out, if_true]; exact hown3, (bnext hbr (alloc_below _ _) hbr.size).trans hb3⟩
        case measure => simp [intOf]; omega
    · obtain rfl : k = n := by omega
      go_wp2
      go_ret
      exact ⟨A', n', c', rfl, by rw [← HF2.out]; exact hown.mono hb1.size, bnext hb1 hbr hb1.size⟩
end Go.Proofs.YtcaekfebnhedpaaGreatDoor
