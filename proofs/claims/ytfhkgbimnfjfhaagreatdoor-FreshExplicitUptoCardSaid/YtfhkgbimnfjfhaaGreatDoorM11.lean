/- Joined texts: The reference's Tokens; slices.Contains at texts, the reference's Has; frame.Last and the reference's Last; Cache-Control in plain Lean, more: lengths, the first place of a name, what it tells; strings.Trim with the ten digits, and small facts on bytes. The conditions stand in each line. -/
import Derived.Test.YtfhkgbimnfjfhaaGreatDoorM2
import Derived.Test.YtfhkgbimnfjfhaaGreatDoorM4
import Derived.Test.YtfhkgbimnfjfhaaGreatDoorM6
import Derived.Test.YtfhkgbimnfjfhaaGreatDoorM9
import Derived.Test.YtfhkgbimnfjfhaaGreatDoorM10
import Derived.Lib.SlTrimSet
set_option linter.unusedVariables false
set_option linter.unusedSimpArgs false
namespace Go.Proofs.YtfhkgbimnfjfhaaGreatDoor
open Go.RowKit

set_option maxHeartbeats 2000000 in
theorem tokensR_own (A : Option Addr) (n c : Nat) (l : List Fld) (name : List UInt8) (w : World) (hl : RdF w A n l) (hn : n ≤ 1048576) (hls : FlenS l) (hnm : name.length ≤ 1048576) :
    Calls Tryz.prog 85 #[.slice A n c, .string (bs name)] w fun e w' => ∃ A' n' c', e = .returned (.slice A' n' c') ∧ OwnS w' w.heap.size (.slice A' n' c') (tokensL l name) ∧ Below w.heap.size w w' := by
  have HV : Hid (∀ v ∈ valuesL l name, v.length ≤ 1048576) := Lib.hid fun v hv => values_each hls hv
  have HVl : Hid ((valuesL l name).length ≤ l.length) := Lib.hid (values_le l name)
  have HF : Hid (∀ V, V = valuesL l name → toksV V = tokensL l name) := Lib.hid (fun V h => by rw [h]; rfl)
  have hln := hl.1
  go_enter Tryz.func85, Tryz.ntmps85
  go_upto_region 2 with fail
  have hm0 := OwnS.made w
  have hbm0 := alloc_below w (.cells #[] 9)
  go_wp2_with fail
  refine (valuesR_own A n c l name _ (hl.step hbm0) (by omega) hls.ok (by omega)).mono ?_
  rintro e w1 ⟨A1, n1, c1, rfl, hS, hb1⟩
  have hrd := hS.rd
  have hsv := sep_of hm0 hS
  clear hS hl hls
  generalize valuesL l name = V at *
  have hm := (hm0.step hb1).mono (Nat.le_refl w.heap.size)
  have hb2 := bnext hbm0 hb1 hbm0.size
  clear hm0 hbm0 hb1
  have HF2 : Hid (toksV (V.take n1) = tokensL l name) := Lib.hid (by rw [List.take_of_length_le (by rw [hrd.1]; exact Nat.le_refl _)]; exact HF.out V rfl)
  have hnl : n1 ≤ 1048576 := by have := HVl.out; rw [hrd.1] at this; omega
  clear HF HVl
  go_wp2
  go_loopw [5, 7] (fun v t wr => ∃ (k : Nat) (A' : Option Addr) (n' c' : Nat), k ≤ n1 ∧ t = .int .i64 k ∧ v = .slice A' n' c' ∧ OwnS wr w.heap.size (.slice A' n' c') (toksV (V.take k)) ∧ RdS wr A1 n1 V ∧ Sep (.slice A' n' c') A1 n1 ∧ Below w.heap.size w wr) (fun _ t _ => n1 - (intOf t).toNat)
  case atStart => exact ⟨0, _, _, _, by omega, rfl, rfl, hm, hrd, hsv, hb2⟩
  case round =>
    obtain ⟨k, A', n', c', hk, rfl, rfl, hown, hrd, hsv, hbr⟩ := hrel
    clear hm hb2
    by_cases hlt : k < n1
    · obtain ⟨g, o, x, rfl, hg, HX, hc1⟩ := hrd.at_ hlt
      have HS := Lib.hid (toksV_snoc HX.out)
      have hxl : x.length ≤ 1048576 := HV.out x (mem_of_get? HX.out)
      have HK : Hid ((toksV (V.take k)).length ≤ k * 1048577) := Lib.hid (toksV_le V k HV.out)
      have HE : Hid (∀ (j : Nat) y, (listL x)[j]? = some y → y.length ≤ x.length) := Lib.hid fun j y h => list_each x (mem_of_get? h)
      have HEl := Lib.hid (list_len x)
      go_wp2_with fail
      refine (listR_own x _ (by omega)).mono ?_
      rintro e wl ⟨A2, n2, c2, rfl, hE, hbl⟩
      have hown2 := hown.step hbl
      have hsep := sep_of hown hE
      have hEr := hE.rd
      have hbl2 := bnext hbr hbl hbr.size
      have hrd2 := hrd.step hbl
      clear hE
      generalize listL x = E at *
      have hn2 : n2 ≤ 1048577 := by have := HEl.out; rw [hEr.1] at this; omega
      have HT : Hid ((E.take n2).map fold = E.map fold) := Lib.hid (by rw [List.take_of_length_le (by rw [hEr.1]; exact Nat.le_refl _)])
      clear hbl hown hbr hrd HF2 hc1
      obtain ⟨wo, rfl⟩ : ∃ wo, wo = wr := ⟨_, rfl⟩
      go_wp2
      go_loopw [5, 9] (fun v t wr => ∃ (j : Nat) (A' : Option Addr) (n' c' : Nat), j ≤ n2 ∧ t = .int .i64 j ∧ v = .slice A' n' c' ∧ OwnS wr w.heap.size (.slice A' n' c') (toksV (V.take k) ++ (E.take j).map fold) ∧ RdS wr A2 n2 E ∧ Sep (.slice A' n' c') A2 n2 ∧ RdS wr (some ⟨g, o, none⟩) n1 V ∧ Sep (.slice A' n' c') (some ⟨g, o, none⟩) n1 ∧ Below w.heap.size w wr) (fun _ t _ => n2 - (intOf t).toNat)
      case atStart => exact ⟨0, _, _, _, by omega, rfl, rfl, by simpa using hown2, hEr, hsep, hrd2, hsv, hbl2⟩
      case round =>
        obtain ⟨j, A', n', c', hj, rfl, rfl, hown, hEr, hsep, hrd, hsv, hbr⟩ := hrel
        by_cases hlj : j < n2
        · obtain ⟨g2, o2, y, rfl, hg2, HY, hd1⟩ := hEr.at_ hlj
          have hyl : y.length ≤ 1048576 := by have := HE.out j y HY.out; omega
          have HM := Lib.hid (map_snoc fold HY.out)
          have HJ : Hid ((toksV (V.take k) ++ (E.take j).map fold).length ≤ 1048576 * 1048577 + 1048577) := Lib.hid (by
            rw [List.length_append, List.length_map, List.length_take]
            have := HK.out
            have h2 : k * 1048577 ≤ 1048576 * 1048577 := Nat.mul_le_mul_right _ (by omega)
            omega)
          go_wp2_with fail
          refine (lower_any y _ (by omega)).mono ?_
          rintro e w3 ⟨rfl, hb3⟩
          have hown3 := hown.step hb3
          have hEr3 := hEr.step hb3
          have hrd3 := hrd.step hb3
          have hbr3 := bnext hbr hb3 hbr.size
          generalize fold y = z at *
          clear hb3 hown hEr hbr hrd
          go_wp2_with
            (at_builtin
             refine wp_appS3 rfl (.tmp 31) (.tmp 37) rfl w.heap.size (.slice A' n' c') _ rfl (hown3.step (alloc_below _ _)) _ 1 1 [z] rfl ?hr ?hby ?hbase (hEr3.step (alloc_below _ _)) hsep (hrd3.step (alloc_below _ _)) hsv ?_
             case hr => exact one_rdS' _ _ _ _ (by simp)
             case hby => have := HJ.out; omega
             case hbase => have := hbr3.size; simp; omega
             intro A3 n3 c3 w4 hown4 hb4 hEr4 hsep4 hrd4 hsv4 hn4)
          go_roundw
          case rel => exact ⟨j + 1, A3, n3, c3, by omega, by go_num, rfl, by rw [HM.out, ← List.append_assoc]; exact hown4, hEr4, hsep4, hrd4, hsv4, (bnext hbr3 (alloc_below _ _) hbr3.size).trans hb4⟩
          case measure => simp [intOf]; omega
        · obtain rfl : j = n2 := by omega
          go_wp2
          go_roundw
          case rel => exact ⟨k + 1, A', n', c', by omega, by go_num, rfl, by rw [HS.out, ← HT.out]; exact hown, hrd, hsv, hbr⟩
          case measure => simp [intOf]; omega
    · obtain rfl : k = n1 := by omega
      go_wp2
      go_ret
      exact ⟨A', n', c', rfl, by rw [← HF2.out]; exact hown, hbr⟩
end Go.Proofs.YtfhkgbimnfjfhaaGreatDoor
set_option linter.unusedVariables false
set_option linter.unusedSimpArgs false
namespace Go.Proofs.YtfhkgbimnfjfhaaGreatDoor
open Go.RowKit

theorem bs_inj {a b : List UInt8} (h : bs a = bs b) : a = b := by
  have := congrArg (fun s : ByteArray => s.data.toList) h
  simpa [bs] using this
/-- Is x among these texts? Is word among the elements of a name's values? -/
def inL (l : List (List UInt8)) (x : List UInt8) : Bool := l.contains x
def hasL (l : List Fld) (name word : List UInt8) : Bool := inL (tokensL l name) word
theorem containsBs (l : List (List UInt8)) (x : List UInt8) : Lib.containsS (l.map bs) (bs x) = inL l x := by
  unfold inL
  rw [Bool.eq_iff_iff, Lib.containsS_iff, List.contains_iff_mem, List.mem_map]
  constructor
  · rintro ⟨y, hy, e⟩; rw [bs_inj e] at hy; exact hy
  · exact fun h => ⟨x, h, rfl⟩
theorem contains_any (A : Option Addr) (n c : Nat) (l : List (List UInt8)) (x : List UInt8) (w : World) (hl : RdS w A n l) (hn : n ≤ 140737488355328) :
    Calls Tryz.prog 45 #[.slice A n c, .string (bs x)] w fun e w' => e = .returned (.bool (inL l x)) ∧ w = w' := by
  by_cases h0 : n = 0
  · subst h0
    have hl0 : l = [] := List.eq_nil_of_length_eq_zero hl.1
    subst hl0
    exact (Tryz.slices_Contains_string_empty A c (bs x) w).mono fun e w' h => ⟨h.1, h.2.symm⟩
  · obtain ⟨g, o, rfl, hg, hc⟩ := hl.2.2 (by omega)
    refine (Tryz.slices_Contains_string g o n c (l.map bs) (bs x) w (by rw [List.length_map, hl.1]; exact Nat.le_refl _) (by omega) (fun j hj => ?_)).mono fun e w' h => ⟨?_, h.2.symm⟩
    · rw [List.length_map] at hj
      rw [hc j _ (strs_get l j hj)]
      simp [strV, List.getD_eq_getElem?_getD, hj]
    · rw [h.1, List.take_of_length_le (by rw [List.length_map, hl.1]; exact Nat.le_refl _), containsBs]

theorem valuesL_name {l : List Fld} {a b : List UInt8} (h : fold a = fold b) : valuesL l a = valuesL l b := by unfold valuesL isB; rw [h]
theorem tokensL_name {l : List Fld} {a b : List UInt8} (h : fold a = fold b) : tokensL l a = tokensL l b := by unfold tokensL; rw [valuesL_name h]
theorem tokens_len {l : List Fld} {name : List UInt8} (h : FlenS l) : (tokensL l name).length ≤ l.length * 1048577 := by
  have h1 := toksV_le (valuesL l name) l.length (fun v hv => values_each h hv)
  rw [List.take_of_length_le (values_le l name)] at h1
  exact h1

set_option maxHeartbeats 1000000 in
theorem has_any (A : Option Addr) (n c : Nat) (l : List Fld) (name word : List UInt8) (w : World) (hl : RdF w A n l) (hn : n ≤ 1048576) (hls : FlenS l) (hnm : name.length ≤ 1048576) (hwd : word.length ≤ 1048576) :
    Calls Tryz.prog 56 #[.slice A n c, .string (bs name), .string (bs word)] w fun e w' => e = .returned (.bool (hasL l name word)) ∧ Below w.heap.size w w' := by
  have HL : Hid ((tokensL l name).length ≤ n * 1048577) := Lib.hid (by rw [← hl.1]; exact tokens_len hls)
  go_enter Tryz.func56, Tryz.ntmps56
  go_wp2_with fail
  refine (tokensR_own A n c l name w hl hn hls hnm).mono ?_
  rintro e w1 ⟨A1, n1, c1, rfl, hS, hb1⟩
  have hrd := hS.rd
  clear hS hl hls
  have HP : Hid (∀ V, V = tokensL l name → V.contains word = hasL l name word) := Lib.hid fun V h => by rw [h]; rfl
  generalize tokensL l name = V at *
  have HP2 := Lib.hid (HP.out V rfl)
  clear HP
  have hV := hrd.1
  have hn1 : n1 ≤ 1099512676352 := by
    have := HL.out
    have h2 : n * 1048577 ≤ 1048576 * 1048577 := Nat.mul_le_mul_right _ hn
    omega
  have HC : Hid (∀ (k : Nat) x, V[k]? = some x → x = word → hasL l name word = true) := Lib.hid fun k x h e => by rw [← HP2.out, List.contains_iff_mem, ← e]; exact mem_of_get? h
  have HN : Hid ((∀ (k : Nat) x, k < n1 → V[k]? = some x → x ≠ word) → hasL l name word = false) := Lib.hid fun h => by
    rw [← HP2.out, ← Bool.not_eq_true, List.contains_iff_mem]
    intro hm
    obtain ⟨k, hk, e⟩ := List.getElem_of_mem hm
    exact h k _ (by omega) (List.getElem?_eq_getElem hk) e
  clear HL
  go_wp2
  go_loop [8] (fun t => ∃ k : Nat, k ≤ n1 ∧ t = .int .i64 k ∧ Hid (∀ (j : Nat) x, j < k → V[j]? = some x → x ≠ word)) (fun t => n1 - (intOf t).toNat)
  case atStart => exact ⟨0, by omega, rfl, Lib.hid fun j x h => by omega⟩
  case round =>
    obtain ⟨k, hk, rfl, HA⟩ := hrel
    by_cases hlt : k < n1
    · obtain ⟨g, o, x, rfl, hg, HX, hc1⟩ := hrd.at_ hlt
      by_cases hxw : x = word
      · have HR := Lib.hid (HC.out k x HX.out hxw)
        subst hxw
        clear hrd
        go_wp2
        go_ret
        exact ⟨ret_bool HR.out.symm, hb1⟩
      · have hne : (x == word) = false := by rw [beq_eq_false_iff_ne]; exact hxw
        have HR : Hid (∀ (j : Nat) y, j < k + 1 → V[j]? = some y → y ≠ word) := Lib.hid fun j y hj hy => by
          by_cases h : j < k
          · exact HA.out j y h hy
          · obtain rfl : j = k := by omega
            rw [HX.out] at hy; cases hy; exact hxw
        clear hxw hrd
        go_wp2
        go_round
        case rel => exact ⟨k + 1, by omega, by go_num, HR⟩
        case measure => simp [intOf]; omega
    · have HR := Lib.hid (HN.out fun j x hj hx => HA.out j x (by omega) hx)
      go_wp2
      go_ret
      exact ⟨ret_bool HR.out.symm, hb1⟩

/-- Is the message the last one on its connection? -/
def lastL (minor : Int) (l : List Fld) : Bool := hasL l [99, 111, 110, 110, 101, 99, 116, 105, 111, 110] [99, 108, 111, 115, 101] || ((minor == 0) && !hasL l [99, 111, 110, 110, 101, 99, 116, 105, 111, 110] [107, 101, 101, 112, 45, 97, 108, 105, 118, 101])
end Go.Proofs.YtfhkgbimnfjfhaaGreatDoor
set_option linter.unusedVariables false
set_option linter.unusedSimpArgs false
namespace Go.Proofs.YtfhkgbimnfjfhaaGreatDoor
namespace Ctl
abbrev noStoreN : List UInt8 := [110, 111, 45, 115, 116, 111, 114, 101]
abbrev noCacheN : List UInt8 := [110, 111, 45, 99, 97, 99, 104, 101]
abbrev privN : List UInt8 := [112, 114, 105, 118, 97, 116, 101]
abbrev pubN : List UInt8 := [112, 117, 98, 108, 105, 99]
abbrev mustN : List UInt8 := [109, 117, 115, 116, 45, 114, 101, 118, 97, 108, 105, 100, 97, 116, 101]
abbrev proxyN : List UInt8 := [112, 114, 111, 120, 121, 45, 114, 101, 118, 97, 108, 105, 100, 97, 116, 101]
abbrev onlyN : List UInt8 := [111, 110, 108, 121, 45, 105, 102, 45, 99, 97, 99, 104, 101, 100]
abbrev maxAgeN : List UInt8 := [109, 97, 120, 45, 97, 103, 101]
abbrev sMaxN : List UInt8 := [115, 45, 109, 97, 120, 97, 103, 101]
abbrev minFreshN : List UInt8 := [109, 105, 110, 45, 102, 114, 101, 115, 104]
abbrev maxStaleN : List UInt8 := [109, 97, 120, 45, 115, 116, 97, 108, 101]
abbrev ccN : List UInt8 := [99, 97, 99, 104, 101, 45, 99, 111, 110, 116, 114, 111, 108]
abbrev CcN : List UInt8 := [67, 97, 99, 104, 101, 45, 67, 111, 110, 116, 114, 111, 108]
abbrev pragmaN : List UInt8 := [112, 114, 97, 103, 109, 97]
abbrev PragmaN : List UInt8 := [80, 114, 97, 103, 109, 97]
theorem uq_len : ∀ (t r : List UInt8), uq t = some r → r.length ≤ t.length
  | [], r, h => by simp [uq] at h
  | [c], r, h => by
    unfold uq at h; split at h
    · simp at h; subst h; simp
    · simp at h
  | [c, d], r, h => by
    unfold uq at h
    split at h
    · simp at h
    · split at h
      · simp at h
      · split at h
        · split at h
          · simp at h; subst h; simp
          · simp at h
        · simp at h
  | c :: d :: e :: t, r, h => by
    rw [uq] at h
    split at h
    · simp at h
    · split at h
      · split at h
        · obtain ⟨x, hx, rfl⟩ := Option.map_eq_some_iff.1 h
          have := uq_len (e :: t) x hx
          simp at *; omega
        · simp at h
      · split at h
        · obtain ⟨x, hx, rfl⟩ := Option.map_eq_some_iff.1 h
          have := uq_len (d :: e :: t) x hx
          simp at *; omega
        · simp at h
theorem unq_len {s r : List UInt8} (h : unq s = some r) : r.length ≤ s.length := by
  unfold unq at h
  split at h
  · have := uq_len _ _ h; simp; omega
  · simp at h
theorem argT_len (t : List UInt8) : (argT t).length ≤ t.length := by
  unfold argT
  split
  · cases hu : unq t with
    | none => simp
    | some r => simpa using unq_len hu
  · exact Nat.le_refl _
theorem argT_yes {t : List UInt8} (h : preB [34] t = true) : argT t = (unq t).getD [] := by
  unfold argT
  rw [if_pos]
  cases t with
  | nil => exact absurd h (by decide)
  | cons c r =>
    have hc : c = 34 := by unfold preB at h; simpa using h
    rw [hc]; rfl
theorem argT_no {t : List UInt8} (h : preB [34] t = false) : argT t = t := by
  unfold argT
  rw [if_neg]
  intro h2
  cases t with
  | nil => simp at h2
  | cons c r =>
    have hc : c = 34 := by simpa using h2
    subst hc
    unfold preB at h; simp at h
theorem dirOf_len (d : List UInt8) : (dirOf d).1.length ≤ d.length ∧ (dirOf d).2.1.length ≤ d.length := by
  unfold dirOf
  constructor
  · show (fold _).length ≤ _
    rw [fold_length]; exact Ur.cutA_le 61 d
  · exact Nat.le_trans (argT_len _) (Ur.cutB_le 61 d)
theorem dirsV_nil (V : List (List UInt8)) : dirsV (V.take 0) = [] := rfl
theorem dirsV_le (V : List (List UInt8)) (k : Nat) (h : ∀ v ∈ V, v.length ≤ 1048576) : (dirsV (V.take k)).length ≤ k * 1048577 := by
  induction k with
  | zero => rw [dirsV_nil]; exact Nat.zero_le _
  | succ k ih =>
    rw [Nat.succ_mul]
    by_cases hk : k < V.length
    · have hx := List.getElem?_eq_getElem hk
      rw [dirsV_snoc hx, List.length_append, List.length_map]
      have := list_len V[k]
      have := h _ (List.getElem_mem hk)
      omega
    · have e1 : V.take k = V := List.take_of_length_le (by omega)
      have e2 : V.take (k + 1) = V := List.take_of_length_le (by omega)
      rw [e1] at ih
      rw [e2]
      exact Nat.le_trans ih (Nat.le_add_right _ _)
theorem dirsV_each {V : List (List UInt8)} (h : ∀ v ∈ V, v.length ≤ 1048576) : ∀ d ∈ dirsV V, d.1.length ≤ 1048576 ∧ d.2.1.length ≤ 1048576 := by
  intro d hd
  unfold dirsV at hd
  obtain ⟨l, hl, hd⟩ := List.mem_flatten.1 hd
  obtain ⟨v, hv, rfl⟩ := List.mem_map.1 hl
  obtain ⟨x, hx, rfl⟩ := List.mem_map.1 hd
  have h1 := list_each v hx
  have h2 := h v hv
  have h3 := dirOf_len x
  omega
theorem dir_snoc {l : List (List UInt8)} {k : Nat} {x : List UInt8} (h : l[k]? = some x) : (l.take (k + 1)).map dirOf = (l.take k).map dirOf ++ [dirOf x] := by
  rw [take_snoc? h]; simp
/-- The first place of a name, -1: there is none. -/
def findD (D : List Dir) (n : List UInt8) : Int := idxI (fun d => d.1 == n) D
theorem findD_none {D : List Dir} {n : List UInt8} (h : firstD D n = none) : findD D n = -1 := by
  unfold findD
  refine idxI_none ?_
  rw [Bool.eq_false_iff]
  intro h2
  obtain ⟨x, hx, hp⟩ := List.any_eq_true.1 h2
  unfold firstD at h
  rw [List.find?_eq_none] at h
  exact h x hx hp
theorem findD_some {D : List Dir} {n : List UInt8} {d : Dir} (h : firstD D n = some d) : ∃ k : Nat, findD D n = k ∧ D[k]? = some d := by
  unfold firstD at h
  have h1 : D.findIdx? (fun d => d.1 == n) ≠ none := by
    intro h2
    rw [List.findIdx?_eq_none_iff] at h2
    have h3 := List.find?_some h
    rw [h2 d (List.mem_of_find?_eq_some h)] at h3
    cases h3
  cases hf : D.findIdx? (fun d => d.1 == n) with
  | none => exact absurd hf h1
  | some k =>
    refine ⟨k, by unfold findD idxI; rw [hf], ?_⟩
    obtain ⟨hk, hp, hm⟩ := List.findIdx?_eq_some_iff_getElem.1 hf
    rw [List.getElem?_eq_getElem hk]
    rw [List.find?_eq_some_iff_getElem] at h
    obtain ⟨hd, i, hi, rfl, hj⟩ := h
    rcases Nat.lt_trichotomy i k with h2 | h2 | h2
    · have := hm i h2
      simp at this hd
      exact absurd hd this
    · subst h2; rfl
    · have := hj k h2
      simp at this hp
      exact absurd hp this
theorem findD_has (D : List Dir) (n : List UInt8) : decide (0 ≤ findD D n) = hasD D n := by
  unfold hasD
  cases h : firstD D n with
  | none => rw [findD_none h]; rfl
  | some d =>
    obtain ⟨k, hk, -⟩ := findD_some h
    rw [hk]; simp
theorem numD_argAt (D : List Dir) (n : List UInt8) : numD D n = if hasD D n = true then (if secL (argAt D n).1 < 0 then 0 else secL (argAt D n).1) else -1 := by
  unfold numD hasD argAt
  cases firstD D n <;> rfl
theorem patD_argAt (D : List Dir) (n : List UInt8) : patD D n = if hasD D n = true then (if (argAt D n).2 = true then secL (argAt D n).1 else 2147483648) else -1 := by
  unfold patD hasD argAt
  cases firstD D n <;> rfl
theorem argAt_len {D : List Dir} (h : ∀ d ∈ D, d.1.length ≤ 1048576 ∧ d.2.1.length ≤ 1048576) (n : List UInt8) : (argAt D n).1.length ≤ 1048576 := by
  unfold argAt
  cases hf : firstD D n with
  | none => simp
  | some d => exact (h d (List.mem_of_find?_eq_some hf)).2
theorem secL_ge (s : List UInt8) : -1 ≤ secL s ∧ secL s ≤ 2147483648 := by
  unfold secL
  split
  · omega
  · rename_i h
    have hd : s.all Dt.isD = true := by
      cases h2 : s.all Dt.isD with
      | true => rfl
      | false => exact absurd (.inr h2) h
    have : ∀ (l : List UInt8) (v : Int), l.all Dt.isD = true → 0 ≤ v → v ≤ 2147483648 → 0 ≤ l.foldl secF v ∧ l.foldl secF v ≤ 2147483648 := by
      intro l
      induction l with
      | nil => intro v _ h1 h2; exact ⟨h1, h2⟩
      | cons c r ih =>
        intro v h1 h2 h3
        rw [List.all_cons, Bool.and_eq_true] at h1
        have hb := secF_bd h1.1 h2
        exact ih _ h1.2 hb.1 hb.2
    have := this s 0 hd (by omega) (by omega)
    omega
theorem numD_ge (D : List Dir) (n : List UInt8) : -1 ≤ numD D n ∧ numD D n ≤ 2147483648 := by
  unfold numD
  cases firstD D n with
  | none => simp
  | some d => have := secL_ge d.2.1; dsimp only; split <;> omega
theorem patD_ge (D : List Dir) (n : List UInt8) : -1 ≤ patD D n ∧ patD D n ≤ 2147483648 := by
  unfold patD
  cases firstD D n with
  | none => simp
  | some d => have := secL_ge d.2.1; dsimp only; split <;> omega
/-- What Cache-Control tells. -/
structure Ct where
  noStore : Bool
  noCache : Bool
  priv : Bool
  pub : Bool
  must : Bool
  only : Bool
  maxAge : Int
  sMaxAge : Int
  minFresh : Int
  maxStale : Int
def ctD (D : List Dir) (old : Bool) : Ct := ⟨hasD D noStoreN, hasD D noCacheN || old, hasD D privN, hasD D pubN, hasD D mustN || hasD D proxyN, hasD D onlyN, numD D maxAgeN, numD D sMaxN, numD D minFreshN, patD D maxStaleN⟩
def oldL (l : List Fld) : Bool := (valuesL l ccN).isEmpty && hasL l pragmaN noCacheN
def ctlL (l : List Fld) : Ct := ctD (dirsV (valuesL l ccN)) (oldL l)
end Ctl
def ctV (c : Ctl.Ct) : Value := .agg #[.bool c.noStore, .bool c.noCache, .bool c.priv, .bool c.pub, .bool c.must, .bool c.only, .int .i64 c.maxAge, .int .i64 c.sMaxAge, .int .i64 c.minFresh, .int .i64 c.maxStale]
end Go.Proofs.YtfhkgbimnfjfhaaGreatDoor
set_option linter.unusedVariables false
set_option linter.unusedSimpArgs false
namespace Go.Proofs.YtfhkgbimnfjfhaaGreatDoor
open Go.RowKit

set_option maxRecDepth 100000
theorem u8_all (c : UInt8) : ∃ n : Fin 256, c = UInt8.ofNat n.val := ⟨⟨c.toNat, c.toNat_lt⟩, by simp⟩
theorem emp_no {s : List UInt8} (h : s ≠ []) : s.isEmpty = false := by cases s with
  | nil => exact absurd rfl h
  | cons a t => rfl
theorem digits_contains (b : UInt8) : ([48, 49, 50, 51, 52, 53, 54, 55, 56, 57] : List UInt8).contains b = Dt.isD b := by
  have : ∀ n : Fin 256, ([48, 49, 50, 51, 52, 53, 54, 55, 56, 57] : List UInt8).contains (UInt8.ofNat n.val) = Dt.isD (UInt8.ofNat n.val) := by decide +kernel
  obtain ⟨n, rfl⟩ := u8_all b
  exact this n
theorem dropW_all {f : UInt8 → Bool} : ∀ {l : List UInt8}, (l.dropWhile f = [] ↔ l.all f = true)
  | [] => by simp
  | b :: r => by
    rw [List.dropWhile_cons, List.all_cons]
    cases hb : f b
    · simp
    · simpa using dropW_all (l := r)
theorem trimD (s : List UInt8) : (Lib.trimS s [48, 49, 50, 51, 52, 53, 54, 55, 56, 57] = [] ↔ s.all Dt.isD = true) := by
  unfold Lib.trimS Lib.trimLeftS Lib.trimRightS
  have e : (fun x => ([48, 49, 50, 51, 52, 53, 54, 55, 56, 57] : List UInt8).contains x) = Dt.isD := funext digits_contains
  rw [e, dropW_all, List.all_reverse]
  constructor
  · intro h
    by_cases ha : s.all Dt.isD = true
    · exact ha
    · exfalso
      have h2 : s.reverse.dropWhile Dt.isD ≠ [] := fun h3 => ha (by rw [dropW_all, List.all_reverse] at h3; exact h3)
      obtain ⟨b, r, hb⟩ : ∃ b r, s.reverse.dropWhile Dt.isD = b :: r := by cases hd : s.reverse.dropWhile Dt.isD with
        | nil => exact absurd hd h2
        | cons b r => exact ⟨b, r, rfl⟩
      have hbf : Dt.isD b = false := by
        have := List.head?_dropWhile_not Dt.isD s.reverse
        rw [hb] at this
        simpa using this
      rw [hb] at h
      simp [hbf] at h
  · intro h
    rw [List.all_eq_true] at h ⊢
    exact fun b hb => h b (by simpa using (List.dropWhile_sublist _).mem hb)
theorem trimD_any (s : List UInt8) (w : World) (hs : s.length ≤ 4398046511104) : Calls Tryz.prog 59 #[.string (bs s), .string ⟨#[48, 49, 50, 51, 52, 53, 54, 55, 56, 57]⟩] w fun e w' => e = .returned (.string (bs (Lib.trimS s [48, 49, 50, 51, 52, 53, 54, 55, 56, 57]))) ∧ Below w.heap.size w w' :=
  Tryz.strings_Trim_set (bs s) ⟨#[48, 49, 50, 51, 52, 53, 54, 55, 56, 57]⟩ w (by simp; omega) (by decide) (by
    intro j b hj
    have := List.mem_of_getElem? hj
    simp at this
    rcases this with rfl | rfl | rfl | rfl | rfl | rfl | rfl | rfl | rfl | rfl <;> decide)
end Go.Proofs.YtfhkgbimnfjfhaaGreatDoor
