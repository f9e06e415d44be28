/- fields.Values: all values of a name; SameTexts: equal lists. Conditions: texts' lengths at most 2^47, lists' bytes at most 2^47. -/
import Derived.Test.YtbigcdmkfcmegaaIs
import Derived.Test.YtbigcdmkfcmegaaDel
import Derived.Deep.QuietTactic
import Derived.BigQuiet
import Derived.Deep.Cut
import Derived.Deep.DeepCutAuto
set_option linter.unusedVariables false
set_option linter.unusedSimpArgs false
namespace Go.Proofs.Ytbigcdmkfcmegaa
open Go.RowKit

def valuesL (l : List Fld) (name : List UInt8) : List (List UInt8) := (l.filter fun f => isB f name).map Prod.snd
theorem values_snoc {l : List Fld} {k : Nat} {x : Fld} {name : List UInt8} (h : l[k]? = some x) : valuesL (l.take (k + 1)) name = valuesL (l.take k) name ++ (if isB x name = true then [x.2] else []) := by
  unfold valuesL
  rw [take_snoc? h, List.filter_append, List.map_append]
  congr 1
  simp only [List.filter_cons, List.filter_nil]
  split <;> rfl
theorem values_le (l : List Fld) (name : List UInt8) : (valuesL l name).length ≤ l.length := by unfold valuesL; rw [List.length_map]; exact List.length_filter_le _ _

set_option maxHeartbeats 1000000 in
theorem values_own (A : Option Addr) (n c : Nat) (l : List Fld) (name : List UInt8) (w : World) (hl : RdF w A n l) (hn : n * 32 ≤ 140737488355328) (hls : FlenOK l) (hnm : name.length ≤ 140737488355328) :
    Calls Try.prog 17 #[.slice A n c, .string (bs name)] w fun e w' => ∃ A' n' c', e = .returned (.slice A' n' c') ∧ OwnS w' w.heap.size (.slice A' n' c') (valuesL l name) ∧ Below w.heap.size w w' := by
  have HF : Hid (valuesL (l.take n) name = valuesL l name) := Lib.hid (by rw [List.take_of_length_le (by rw [hl.1]; exact Nat.le_refl _)])
  go_enter Try.func17, Try.ntmps17
  go_wp2
  go_loopw [5, 10] (fun v t wr => ∃ (k : Nat) (A' : Option Addr) (n' c' : Nat), k ≤ n ∧ t = .int .i64 k ∧ v = .slice A' n' c' ∧ OwnS wr w.heap.size (.slice A' n' c') (valuesL (l.take k) name) ∧ Below w.heap.size w wr) (fun _ t _ => n - (intOf t).toNat)
  case atStart => exact ⟨0, _, _, _, by omega, rfl, rfl, OwnS.nil _ _, Below.refl _ _⟩
  case round =>
    obtain ⟨k, A', n', c', hk, rfl, rfl, hown, hbr⟩ := hrel
    by_cases hlt : k < n
    · obtain ⟨g, o, nm, vl, rfl, hg, HX, hc1, hc2⟩ := (hl.step hbr).at_ hlt
      have hsl := hls _ (mem_of_get? HX.out)
      have hsl1 : nm.length ≤ 140737488355328 := hsl.1
      clear hsl
      have HS := Lib.hid (values_snoc (name := name) HX.out)
      have HL : Hid ((valuesL (l.take k) name).length ≤ k) := Lib.hid (by have := values_le (l.take k) name; simp at this; omega)
      go_wp2_with fail
      refine (is_any nm vl name _ hsl1 hnm).mono ?_
      rintro e w2 ⟨rfl, hb2⟩
      have hal := alloc_below wr (.cells #[.string (bs nm), .string (bs vl)] 37)
      have hv2 : w2.cell? ⟨wr.heap.size, 1, none⟩ = some (.string (bs vl)) := by rw [hb2.cell (p := ⟨wr.heap.size, 1, none⟩) (by simp), cell_of_row _ _ _ _ _ _ (heap_alloc_new wr _)]; rfl
      have hown2 := (hown.step hal).step hb2
      have hbr2 := bnext (bnext hbr hal hbr.size) hb2 (by have := hbr.size; simp; omega)
      clear hal hb2
      cases hpv : isB (nm, vl) name
      · have HPV := Lib.hid hpv
        clear hpv
        go_wp2
        go_roundw
        case rel => exact ⟨k + 1, A', n', c', by omega, by go_num, rfl, by rw [HS.out]; simp only [HPV.out, Bool.false_eq_true, if_false, List.append_nil]; exact hown2, hbr2⟩
        case measure => simp [intOf]; omega
      · have HPV := Lib.hid hpv
        clear hpv
        go_wp2_with
          (at_builtin
           refine wp_appS rfl (.tmp 17) (.tmp 20) rfl w.heap.size (.slice A' n' c') _ rfl (hown2.step (alloc_below _ _)) _ 1 1 [vl] rfl ?hr ?hby ?hbase ?_
           case hr => exact one_rdS' _ _ _ _ (by simp)
           case hby => have := HL.out; omega
           case hbase => have := hbr2.size; simp; omega
           intro A3 n3 c3 w3 hown3 hb3 hn3)
        go_roundw
        case rel => exact ⟨k + 1, A3, n3, c3, by omega, by go_num, rfl, by rw [HS.out]; simp only [HPV.out, if_true]; exact hown3, (bnext hbr2 (alloc_below _ _) hbr2.size).trans hb3⟩
        case measure => simp [intOf]; omega
    · obtain rfl : k = n := by omega
      go_wp2
      go_ret
      exact ⟨A', n', c', rfl, by rw [← HF.out]; exact hown, hbr⟩

set_option maxHeartbeats 400000 in
theorem sameTexts_any (A B : Option Addr) (n m c d : Nat) (l r : List (List UInt8)) (w : World) (hl : RdS w A n l) (hr : RdS w B m r) (hn : n ≤ 140737488355328) (hm : m ≤ 140737488355328) :
    Calls Try.prog 18 #[.slice A n c, .slice B m d] w fun e w' => e = .returned (.bool (l == r)) ∧ Below w.heap.size w w' := by
  by_cases hnm : n = m
  case neg =>
    have HF : Hid ((l == r) = false) := Lib.hid (by rw [beq_eq_false_iff_ne]; intro h; apply hnm; rw [← hl.1, ← hr.1, h])
    have hnm' : ((n : Int) != (m : Int)) = true := by simp; omega
    go_enter Try.func18, Try.ntmps18
    go_wp2
    go_ret
    exact ⟨ret_bool HF.out.symm, Below.refl _ _⟩
  subst hnm
  have HN : Hid (∀ k : Nat, ∀ x y : List UInt8, l[k]? = some x → r[k]? = some y → x ≠ y → (l == r) = false) := Lib.hid fun k x y h1 h2 hne => by
    rw [beq_eq_false_iff_ne]; intro h; subst h; rw [h1] at h2; exact hne (Option.some.inj h2)
  have HT : Hid (l.take n = r.take n → (l == r) = true) := Lib.hid fun h => by
    rw [List.take_of_length_le (by rw [hl.1]; exact Nat.le_refl _), List.take_of_length_le (by rw [hr.1]; exact Nat.le_refl _)] at h; simpa using h
  go_enter Try.func18, Try.ntmps18
  go_wp2
  go_loopw [5] (fun t wr => ∃ k : Nat, k ≤ n ∧ t = .int .i64 k ∧ l.take k = r.take k ∧ Below w.heap.size w wr) (fun t _ => n - (intOf t).toNat)
  case atStart => exact ⟨0, by omega, rfl, rfl, Below.refl _ _⟩
  case round =>
    obtain ⟨k, hk, rfl, hall, hbr⟩ := hrel
    have HA := Lib.hid hall
    clear hall
    by_cases hlt : k < n
    · obtain ⟨g, o, x, rfl, hg, HX, hc1⟩ := (hl.step hbr).at_ hlt
      obtain ⟨g', o', y, rfl, hg', HY, hd1⟩ := (hr.step hbr).at_ hlt
      clear hl hr
      have HS : Hid (x = y → l.take (k + 1) = r.take (k + 1)) := Lib.hid fun h => by rw [take_snoc? HX.out, take_snoc? HY.out, HA.out, h]
      have HF : Hid (x ≠ y → (l == r) = false) := Lib.hid fun h => HN.out k _ _ HX.out HY.out h
      go_wp2
      go_quiet (fail)
      go_wp2
      · have hne : x ≠ y := by rintro rfl; simp_all
        go_ret
        exact ⟨ret_bool (HF.out hne).symm, below_drewN hbr _⟩
      · have he : x = y := by simp_all
        go_roundw
        case rel => exact ⟨k + 1, by omega, by go_num, HS.out he, below_drewN hbr _⟩
        case measure => simp [intOf]; omega
    · obtain rfl : k = n := by omega
      go_wp2
      go_ret
      exact ⟨ret_bool (HT.out HA.out).symm, hbr⟩
end Go.Proofs.Ytbigcdmkfcmegaa
