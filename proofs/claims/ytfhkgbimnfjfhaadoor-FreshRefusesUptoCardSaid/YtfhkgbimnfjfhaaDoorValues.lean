/- fields.Values: all values of a name; SameTexts: equal lists. Conditions: texts' lengths at most 2^47, lists' bytes at most 2^47. -/
import Derived.Test.YtfhkgbimnfjfhaaDoorIs
import Derived.Deep.QuietTactic
import Derived.BigQuiet
import Derived.Deep.Cut
import Derived.Deep.DeepCutAuto
set_option linter.unusedVariables false
set_option linter.unusedSimpArgs false
namespace Go.Proofs.YtfhkgbimnfjfhaaDoor
open Go.RowKit

def valuesL (l : List Fld) (name : List UInt8) : List (List UInt8) := (l.filter fun f => isB f name).map Prod.snd
theorem values_snoc {l : List Fld} {k : Nat} {x : Fld} {name : List UInt8} (h : l[k]? = some x) : valuesL (l.take (k + 1)) name = valuesL (l.take k) name ++ (if isB x name = true then [x.2] else []) := by
  unfold valuesL
  rw [take_snoc? h, List.filter_append, List.map_append]
  congr 1
  simp only [List.filter_cons, List.filter_nil]
  split <;> rfl
theorem values_le (l : List Fld) (name : List UInt8) : (valuesL l name).length ≤ l.length := by unfold valuesL; rw [List.length_map]; exact List.length_filter_le _ _

set_option maxHeartbeats 1000000 in
theorem values_own (A : Option Addr) (n c : Nat) (l : List Fld) (name : List UInt8) (w : World) (hl : RdF w A n l) (hn : n * 32 ≤ 140737488355328) (hls : FlenOK l) (hnm : name.length ≤ 140737488355328) :
    Calls Tryd.prog 22 #[.slice A n c, .string (bs name)] w fun e w' => ∃ A' n' c', e = .returned (.slice A' n' c') ∧ OwnS w' w.heap.size (.slice A' n' c') (valuesL l name) ∧ Below w.heap.size w w' := by
  have HF : Hid (valuesL (l.take n) name = valuesL l name) := Lib.hid (by rw [List.take_of_length_le (by rw [hl.1]; exact Nat.le_refl _)])
  go_enter Tryd.func22, Tryd.ntmps22
  go_wp2
  go_loopw [5, 10] (fun v t wr => ∃ (k : Nat) (A' : Option Addr) (n' c' : Nat), k ≤ n ∧ t = .int .i64 k ∧ v = .slice A' n' c' ∧ OwnS wr w.heap.size (.slice A' n' c') (valuesL (l.take k) name) ∧ Below w.heap.size w wr) (fun _ t _ => n - (intOf t).toNat)
  case atStart => exact ⟨0, _, _, _, by omega, rfl, rfl, OwnS.nil _ _, Below.refl _ _⟩
  case round =>
    obtain ⟨k, A', n', c', hk, rfl, rfl, hown, hbr⟩ := hrel
    by_cases hlt : k < n
    · obtain ⟨g, o, nm, vl, rfl, hg, HX, hc1, hc2⟩ := (hl.step hbr).at_ hlt
      have hsl := hls _ (mem_of_get? HX.out)
      have hsl1 : nm.length ≤ 140737488355328 := hsl.1
      clear hsl
      have HS := Lib.hid (values_snoc (name := name) HX.out)
      have HL : Hid ((valuesL (l.take k) name).length ≤ k) := Lib.hid (by have := values_le (l.take k) name; simp at this; omega)
      go_wp2_with fail
      refine (is_any nm vl name _ hsl1 hnm).mono ?_
      rintro e w2 ⟨rfl, hb2⟩
      have hal := alloc_below wr (.cells #[.string (bs nm), .string (bs vl)] 63)
      have hv2 : w2.cell? ⟨wr.heap.size, 1, none⟩ = some (.string (bs vl)) := by rw [hb2.cell (p := ⟨wr.heap.size, 1, none⟩) (by simp), cell_of_row _ _ _ _ _ _ (heap_alloc_new wr _)]; rfl
      have hown2 := (hown.step hal).step hb2
      have hbr2 := bnext (bnext hbr hal hbr.size) hb2 (by have := hbr.size; simp; omega)
      clear hal hb2
      cases hpv : isB (nm, vl) name
      · have HPV := Lib.hid hpv
        clear hpv
        go_wp2
        go_roundw
        case rel => exact ⟨k + 1, A', n', c', by omega, by go_num, rfl, by rw [HS.out]; simp only [HPV.out, Bool.false_eq_true, if_false, List.append_nil]; exact hown2, hbr2⟩
        case measure => simp [intOf]; omega
      · have HPV := Lib.hid hpv
        clear hpv
        go_wp2_with
          (at_builtin
           refine wp_appS rfl (.tmp 17) (.tmp 20) rfl w.heap.size (.slice A' n' c') _ rfl (hown2.step (alloc_below _ _)) _ 1 1 [vl] rfl ?hr ?hby ?hbase ?_
           case hr => exact one_rdS' _ _ _ _ (by simp)
           case hby => have := HL.out; omega
           case hbase => have := hbr2.size; simp; omega
           intro A3 n3 c3 w3 hown3 hb3 hn3)
        go_roundw
        case rel => exact ⟨k + 1, A3, n3, c3, by omega, by go_num, rfl, by rw [HS.out]; simp only [HPV.out, if_true]; exact hown3, (bnext hbr2 (alloc_below _ _) hbr2.size).trans hb3⟩
        case measure => simp [intOf]; omega
    · obtain rfl : k = n := by omega
      go_wp2
      go_ret
      exact ⟨A', n', c', rfl, by rw [← HF.out]; exact hown, hbr⟩

end Go.Proofs.YtfhkgbimnfjfhaaDoor
