/- Cache-Control in plain Lean, more: lengths, the first place of a name, what it tells. No program here; no conditions. -/
import Derived.Test.YtfhkgbimnfjfhaaDoorCtl
import Derived.Test.YtfhkgbimnfjfhaaDoorTab
import Derived.Test.YtfhkgbimnfjfhaaDoorLast
set_option linter.unusedVariables false
set_option linter.unusedSimpArgs false
namespace Go.Proofs.YtfhkgbimnfjfhaaDoor
namespace Ctl
abbrev noStoreN : List UInt8 := [110, 111, 45, 115, 116, 111, 114, 101]
abbrev noCacheN : List UInt8 := [110, 111, 45, 99, 97, 99, 104, 101]
abbrev privN : List UInt8 := [112, 114, 105, 118, 97, 116, 101]
abbrev pubN : List UInt8 := [112, 117, 98, 108, 105, 99]
abbrev mustN : List UInt8 := [109, 117, 115, 116, 45, 114, 101, 118, 97, 108, 105, 100, 97, 116, 101]
abbrev proxyN : List UInt8 := [112, 114, 111, 120, 121, 45, 114, 101, 118, 97, 108, 105, 100, 97, 116, 101]
abbrev onlyN : List UInt8 := [111, 110, 108, 121, 45, 105, 102, 45, 99, 97, 99, 104, 101, 100]
abbrev maxAgeN : List UInt8 := [109, 97, 120, 45, 97, 103, 101]
abbrev sMaxN : List UInt8 := [115, 45, 109, 97, 120, 97, 103, 101]
abbrev minFreshN : List UInt8 := [109, 105, 110, 45, 102, 114, 101, 115, 104]
abbrev maxStaleN : List UInt8 := [109, 97, 120, 45, 115, 116, 97, 108, 101]
abbrev ccN : List UInt8 := [99, 97, 99, 104, 101, 45, 99, 111, 110, 116, 114, 111, 108]
abbrev CcN : List UInt8 := [67, 97, 99, 104, 101, 45, 67, 111, 110, 116, 114, 111, 108]
abbrev pragmaN : List UInt8 := [112, 114, 97, 103, 109, 97]
abbrev PragmaN : List UInt8 := [80, 114, 97, 103, 109, 97]
theorem uq_len : ∀ (t r : List UInt8), uq t = some r → r.length ≤ t.length
  | [], r, h => by simp [uq] at h
  | [c], r, h => by
    unfold uq at h; split at h
    · simp at h; subst h; simp
    · simp at h
  | [c, d], r, h => by
    unfold uq at h
    split at h
    · simp at h
    · split at h
      · simp at h
      · split at h
        · split at h
          · simp at h; subst h; simp
          · simp at h
        · simp at h
  | c :: d :: e :: t, r, h => by
    rw [uq] at h
    split at h
    · simp at h
    · split at h
      · split at h
        · obtain ⟨x, hx, rfl⟩ := Option.map_eq_some_iff.1 h
          have := uq_len (e :: t) x hx
          simp at *; omega
        · simp at h
      · split at h
        · obtain ⟨x, hx, rfl⟩ := Option.map_eq_some_iff.1 h
          have := uq_len (d :: e :: t) x hx
          simp at *; omega
        · simp at h
theorem unq_len {s r : List UInt8} (h : unq s = some r) : r.length ≤ s.length := by
  unfold unq at h
  split at h
  · have := uq_len _ _ h; simp; omega
  · simp at h
theorem argT_len (t : List UInt8) : (argT t).length ≤ t.length := by
  unfold argT
  split
  · cases hu : unq t with
    | none => simp
    | some r => simpa using unq_len hu
  · exact Nat.le_refl _
theorem argT_yes {t : List UInt8} (h : preB [34] t = true) : argT t = (unq t).getD [] := by
  unfold argT
  rw [if_pos]
  cases t with
  | nil => exact absurd h (by decide)
  | cons c r =>
    have hc : c = 34 := by unfold preB at h; simpa using h
    rw [hc]; rfl
theorem argT_no {t : List UInt8} (h : preB [34] t = false) : argT t = t := by
  unfold argT
  rw [if_neg]
  intro h2
  cases t with
  | nil => simp at h2
  | cons c r =>
    have hc : c = 34 := by simpa using h2
    subst hc
    unfold preB at h; simp at h
theorem dirOf_len (d : List UInt8) : (dirOf d).1.length ≤ d.length ∧ (dirOf d).2.1.length ≤ d.length := by
  unfold dirOf
  constructor
  · show (fold _).length ≤ _
    rw [fold_length]; exact Ur.cutA_le 61 d
  · exact Nat.le_trans (argT_len _) (Ur.cutB_le 61 d)
theorem dirsV_nil (V : List (List UInt8)) : dirsV (V.take 0) = [] := rfl
theorem dirsV_le (V : List (List UInt8)) (k : Nat) (h : ∀ v ∈ V, v.length ≤ 1048576) : (dirsV (V.take k)).length ≤ k * 1048577 := by
  induction k with
  | zero => rw [dirsV_nil]; exact Nat.zero_le _
  | succ k ih =>
    rw [Nat.succ_mul]
    by_cases hk : k < V.length
    · have hx := List.getElem?_eq_getElem hk
      rw [dirsV_snoc hx, List.length_append, List.length_map]
      have := list_len V[k]
      have := h _ (List.getElem_mem hk)
      omega
    · have e1 : V.take k = V := List.take_of_length_le (by omega)
      have e2 : V.take (k + 1) = V := List.take_of_length_le (by omega)
      rw [e1] at ih
      rw [e2]
      exact Nat.le_trans ih (Nat.le_add_right _ _)
theorem dirsV_each {V : List (List UInt8)} (h : ∀ v ∈ V, v.length ≤ 1048576) : ∀ d ∈ dirsV V, d.1.length ≤ 1048576 ∧ d.2.1.length ≤ 1048576 := by
  intro d hd
  unfold dirsV at hd
  obtain ⟨l, hl, hd⟩ := List.mem_flatten.1 hd
  obtain ⟨v, hv, rfl⟩ := List.mem_map.1 hl
  obtain ⟨x, hx, rfl⟩ := List.mem_map.1 hd
  have h1 := list_each v hx
  have h2 := h v hv
  have h3 := dirOf_len x
  omega
theorem dir_snoc {l : List (List UInt8)} {k : Nat} {x : List UInt8} (h : l[k]? = some x) : (l.take (k + 1)).map dirOf = (l.take k).map dirOf ++ [dirOf x] := by
  rw [take_snoc? h]; simp
/-- The first place of a name, -1: there is none. -/
def findD (D : List Dir) (n : List UInt8) : Int := idxI (fun d => d.1 == n) D
theorem findD_none {D : List Dir} {n : List UInt8} (h : firstD D n = none) : findD D n = -1 := by
  unfold findD
  refine idxI_none ?_
  rw [Bool.eq_false_iff]
  intro h2
  obtain ⟨x, hx, hp⟩ := List.any_eq_true.1 h2
  unfold firstD at h
  rw [List.find?_eq_none] at h
  exact h x hx hp
theorem findD_some {D : List Dir} {n : List UInt8} {d : Dir} (h : firstD D n = some d) : ∃ k : Nat, findD D n = k ∧ D[k]? = some d := by
  unfold firstD at h
  have h1 : D.findIdx? (fun d => d.1 == n) ≠ none := by
    intro h2
    rw [List.findIdx?_eq_none_iff] at h2
    have h3 := List.find?_some h
    rw [h2 d (List.mem_of_find?_eq_some h)] at h3
    cases h3
  cases hf : D.findIdx? (fun d => d.1 == n) with
  | none => exact absurd hf h1
  | some k =>
    refine ⟨k, by unfold findD idxI; rw [hf], ?_⟩
    obtain ⟨hk, hp, hm⟩ := List.findIdx?_eq_some_iff_getElem.1 hf
    rw [List.getElem?_eq_getElem hk]
    rw [List.find?_eq_some_iff_getElem] at h
    obtain ⟨hd, i, hi, rfl, hj⟩ := h
    rcases Nat.lt_trichotomy i k with h2 | h2 | h2
    · have := hm i h2
      simp at this hd
      exact absurd hd this
    · subst h2; rfl
    · have := hj k h2
      simp at this hp
      exact absurd hp this
theorem findD_has (D : List Dir) (n : List UInt8) : decide (0 ≤ findD D n) = hasD D n := by
  unfold hasD
  cases h : firstD D n with
  | none => rw [findD_none h]; rfl
  | some d =>
    obtain ⟨k, hk, -⟩ := findD_some h
    rw [hk]; simp
theorem numD_argAt (D : List Dir) (n : List UInt8) : numD D n = if hasD D n = true then (if secL (argAt D n).1 < 0 then 0 else secL (argAt D n).1) else -1 := by
  unfold numD hasD argAt
  cases firstD D n <;> rfl
theorem patD_argAt (D : List Dir) (n : List UInt8) : patD D n = if hasD D n = true then (if (argAt D n).2 = true then secL (argAt D n).1 else 2147483648) else -1 := by
  unfold patD hasD argAt
  cases firstD D n <;> rfl
theorem argAt_len {D : List Dir} (h : ∀ d ∈ D, d.1.length ≤ 1048576 ∧ d.2.1.length ≤ 1048576) (n : List UInt8) : (argAt D n).1.length ≤ 1048576 := by
  unfold argAt
  cases hf : firstD D n with
  | none => simp
  | some d => exact (h d (List.mem_of_find?_eq_some hf)).2
theorem secL_ge (s : List UInt8) : -1 ≤ secL s ∧ secL s ≤ 2147483648 := by
  unfold secL
  split
  · omega
  · rename_i h
    have hd : s.all Dt.isD = true := by
      cases h2 : s.all Dt.isD with
      | true => rfl
      | false => exact absurd (.inr h2) h
    have : ∀ (l : List UInt8) (v : Int), l.all Dt.isD = true → 0 ≤ v → v ≤ 2147483648 → 0 ≤ l.foldl secF v ∧ l.foldl secF v ≤ 2147483648 := by
      intro l
      induction l with
      | nil => intro v _ h1 h2; exact ⟨h1, h2⟩
      | cons c r ih =>
        intro v h1 h2 h3
        rw [List.all_cons, Bool.and_eq_true] at h1
        have hb := secF_bd h1.1 h2
        exact ih _ h1.2 hb.1 hb.2
    have := this s 0 hd (by omega) (by omega)
    omega
theorem numD_ge (D : List Dir) (n : List UInt8) : -1 ≤ numD D n ∧ numD D n ≤ 2147483648 := by
  unfold numD
  cases firstD D n with
  | none => simp
  | some d => have := secL_ge d.2.1; dsimp only; split <;> omega
theorem patD_ge (D : List Dir) (n : List UInt8) : -1 ≤ patD D n ∧ patD D n ≤ 2147483648 := by
  unfold patD
  cases firstD D n with
  | none => simp
  | some d => have := secL_ge d.2.1; dsimp only; split <;> omega
/-- What Cache-Control tells. -/
structure Ct where
  noStore : Bool
  noCache : Bool
  priv : Bool
  pub : Bool
  must : Bool
  only : Bool
  maxAge : Int
  sMaxAge : Int
  minFresh : Int
  maxStale : Int
def ctD (D : List Dir) (old : Bool) : Ct := ⟨hasD D noStoreN, hasD D noCacheN || old, hasD D privN, hasD D pubN, hasD D mustN || hasD D proxyN, hasD D onlyN, numD D maxAgeN, numD D sMaxN, numD D minFreshN, patD D maxStaleN⟩
def oldL (l : List Fld) : Bool := (valuesL l ccN).isEmpty && hasL l pragmaN noCacheN
def ctlL (l : List Fld) : Ct := ctD (dirsV (valuesL l ccN)) (oldL l)
end Ctl
def ctV (c : Ctl.Ct) : Value := .agg #[.bool c.noStore, .bool c.noCache, .bool c.priv, .bool c.pub, .bool c.must, .bool c.only, .int .i64 c.maxAge, .int .i64 c.sMaxAge, .int .i64 c.minFresh, .int .i64 c.maxStale]
end Go.Proofs.YtfhkgbimnfjfhaaDoor
