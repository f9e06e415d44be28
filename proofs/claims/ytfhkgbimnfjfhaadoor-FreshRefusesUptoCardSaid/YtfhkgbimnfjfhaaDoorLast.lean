/- slices.Contains at texts, the reference's Has; frame.Last and the reference's Last. Conditions: at most 2^20 fields, texts of at most 2^20 bytes. -/
import Derived.Test.YtfhkgbimnfjfhaaDoorTokensR
set_option linter.unusedVariables false
set_option linter.unusedSimpArgs false
namespace Go.Proofs.YtfhkgbimnfjfhaaDoor
open Go.RowKit

theorem bs_inj {a b : List UInt8} (h : bs a = bs b) : a = b := by
  have := congrArg (fun s : ByteArray => s.data.toList) h
  simpa [bs] using this
/-- Is x among these texts? Is word among the elements of a name's values? -/
def inL (l : List (List UInt8)) (x : List UInt8) : Bool := l.contains x
def hasL (l : List Fld) (name word : List UInt8) : Bool := inL (tokensL l name) word
theorem containsBs (l : List (List UInt8)) (x : List UInt8) : Lib.containsS (l.map bs) (bs x) = inL l x := by
  unfold inL
  rw [Bool.eq_iff_iff, Lib.containsS_iff, List.contains_iff_mem, List.mem_map]
  constructor
  · rintro ⟨y, hy, e⟩; rw [bs_inj e] at hy; exact hy
  · exact fun h => ⟨x, h, rfl⟩
theorem contains_any (A : Option Addr) (n c : Nat) (l : List (List UInt8)) (x : List UInt8) (w : World) (hl : RdS w A n l) (hn : n ≤ 140737488355328) :
    Calls Tryd.prog 15 #[.slice A n c, .string (bs x)] w fun e w' => e = .returned (.bool (inL l x)) ∧ w = w' := by
  by_cases h0 : n = 0
  · subst h0
    have hl0 : l = [] := List.eq_nil_of_length_eq_zero hl.1
    subst hl0
    exact (Tryd.slices_Contains_string_empty A c (bs x) w).mono fun e w' h => ⟨h.1, h.2.symm⟩
  · obtain ⟨g, o, rfl, hg, hc⟩ := hl.2.2 (by omega)
    refine (Tryd.slices_Contains_string g o n c (l.map bs) (bs x) w (by rw [List.length_map, hl.1]; exact Nat.le_refl _) (by omega) (fun j hj => ?_)).mono fun e w' h => ⟨?_, h.2.symm⟩
    · rw [List.length_map] at hj
      rw [hc j _ (strs_get l j hj)]
      simp [strV, List.getD_eq_getElem?_getD, hj]
    · rw [h.1, List.take_of_length_le (by rw [List.length_map, hl.1]; exact Nat.le_refl _), containsBs]

theorem valuesL_name {l : List Fld} {a b : List UInt8} (h : fold a = fold b) : valuesL l a = valuesL l b := by unfold valuesL isB; rw [h]
theorem tokensL_name {l : List Fld} {a b : List UInt8} (h : fold a = fold b) : tokensL l a = tokensL l b := by unfold tokensL; rw [valuesL_name h]
theorem tokens_len {l : List Fld} {name : List UInt8} (h : FlenS l) : (tokensL l name).length ≤ l.length * 1048577 := by
  have h1 := toksV_le (valuesL l name) l.length (fun v hv => values_each h hv)
  rw [List.take_of_length_le (values_le l name)] at h1
  exact h1

set_option maxHeartbeats 1000000 in
theorem has_any (A : Option Addr) (n c : Nat) (l : List Fld) (name word : List UInt8) (w : World) (hl : RdF w A n l) (hn : n ≤ 1048576) (hls : FlenS l) (hnm : name.length ≤ 1048576) (hwd : word.length ≤ 1048576) :
    Calls Tryd.prog 20 #[.slice A n c, .string (bs name), .string (bs word)] w fun e w' => e = .returned (.bool (hasL l name word)) ∧ Below w.heap.size w w' := by
  have HL : Hid ((tokensL l name).length ≤ n * 1048577) := Lib.hid (by rw [← hl.1]; exact tokens_len hls)
  go_enter Tryd.func20, Tryd.ntmps20
  go_wp2_with fail
  refine (tokensR_own A n c l name w hl hn hls hnm).mono ?_
  rintro e w1 ⟨A1, n1, c1, rfl, hS, hb1⟩
  have hrd := hS.rd
  clear hS hl hls
  have HP : Hid (∀ V, V = tokensL l name → V.contains word = hasL l name word) := Lib.hid fun V h => by rw [h]; rfl
  generalize tokensL l name = V at *
  have HP2 := Lib.hid (HP.out V rfl)
  clear HP
  have hV := hrd.1
  have hn1 : n1 ≤ 1099512676352 := by
    have := HL.out
    have h2 : n * 1048577 ≤ 1048576 * 1048577 := Nat.mul_le_mul_right _ hn
    omega
  have HC : Hid (∀ (k : Nat) x, V[k]? = some x → x = word → hasL l name word = true) := Lib.hid fun k x h e => by rw [← HP2.out, List.contains_iff_mem, ← e]; exact mem_of_get? h
  have HN : Hid ((∀ (k : Nat) x, k < n1 → V[k]? = some x → x ≠ word) → hasL l name word = false) := Lib.hid fun h => by
    rw [← HP2.out, ← Bool.not_eq_true, List.contains_iff_mem]
    intro hm
    obtain ⟨k, hk, e⟩ := List.getElem_of_mem hm
    exact h k _ (by omega) (List.getElem?_eq_getElem hk) e
  clear HL
  go_wp2
  go_loop [8] (fun t => ∃ k : Nat, k ≤ n1 ∧ t = .int .i64 k ∧ Hid (∀ (j : Nat) x, j < k → V[j]? = some x → x ≠ word)) (fun t => n1 - (intOf t).toNat)
  case atStart => exact ⟨0, by omega, rfl, Lib.hid fun j x h => by omega⟩
  case round =>
    obtain ⟨k, hk, rfl, HA⟩ := hrel
    by_cases hlt : k < n1
    · obtain ⟨g, o, x, rfl, hg, HX, hc1⟩ := hrd.at_ hlt
      by_cases hxw : x = word
      · have HR := Lib.hid (HC.out k x HX.out hxw)
        subst hxw
        clear hrd
        go_wp2
        go_ret
        exact ⟨ret_bool HR.out.symm, hb1⟩
      · have hne : (x == word) = false := by rw [beq_eq_false_iff_ne]; exact hxw
        have HR : Hid (∀ (j : Nat) y, j < k + 1 → V[j]? = some y → y ≠ word) := Lib.hid fun j y hj hy => by
          by_cases h : j < k
          · exact HA.out j y h hy
          · obtain rfl : j = k := by omega
            rw [HX.out] at hy; cases hy; exact hxw
        clear hxw hrd
        go_wp2
        go_round
        case rel => exact ⟨k + 1, by omega, by go_num, HR⟩
        case measure => simp [intOf]; omega
    · have HR := Lib.hid (HN.out fun j x hj hx => HA.out j x (by omega) hx)
      go_wp2
      go_ret
      exact ⟨ret_bool HR.out.symm, hb1⟩

/-- Is the message the last one on its connection? -/
def lastL (minor : Int) (l : List Fld) : Bool := hasL l [99, 111, 110, 110, 101, 99, 116, 105, 111, 110] [99, 108, 111, 115, 101] || ((minor == 0) && !hasL l [99, 111, 110, 110, 101, 99, 116, 105, 111, 110] [107, 101, 101, 112, 45, 97, 108, 105, 118, 101])
end Go.Proofs.YtfhkgbimnfjfhaaDoor
