/- fields.Tokens: the elements of a name's values, in small letters. Conditions: at most 2^20 fields, texts of at most 2^20 bytes. -/
import Derived.Test.YtfhkgbimnfjfhaaDoorValues
import Derived.Test.YtfhkgbimnfjfhaaDoorListR
import Derived.Test.YtfhkgbimnfjfhaaDoorSep
set_option linter.unusedVariables false
set_option linter.unusedSimpArgs false
namespace Go.Proofs.YtfhkgbimnfjfhaaDoor
open Go.RowKit

/-- All texts are of at most 2^20 bytes. -/
def FlenS (l : List Fld) : Prop := ∀ f ∈ l, f.1.length ≤ 1048576 ∧ f.2.length ≤ 1048576
theorem FlenS.ok {l : List Fld} (h : FlenS l) : FlenOK l := fun f hf => ⟨by have := (h f hf).1; omega, by have := (h f hf).2; omega⟩
theorem values_each {l : List Fld} {name : List UInt8} (h : FlenS l) {v : List UInt8} (hv : v ∈ valuesL l name) : v.length ≤ 1048576 := by
  obtain ⟨f, hf, rfl⟩ := List.mem_map.1 hv
  exact (h f (List.mem_filter.1 hf).1).2
/-- The elements of values, in small letters. -/
def toksV (V : List (List UInt8)) : List (List UInt8) := (V.map fun v => (listL v).map fold).flatten
def tokensL (l : List Fld) (name : List UInt8) : List (List UInt8) := toksV (valuesL l name)
theorem toksV_snoc {V : List (List UInt8)} {k : Nat} {x : List UInt8} (h : V[k]? = some x) : toksV (V.take (k + 1)) = toksV (V.take k) ++ (listL x).map fold := by
  unfold toksV; rw [take_snoc? h]; simp
theorem toksV_nil (V : List (List UInt8)) : toksV (V.take 0) = [] := rfl
theorem toksV_le (V : List (List UInt8)) (k : Nat) (h : ∀ v ∈ V, v.length ≤ 1048576) : (toksV (V.take k)).length ≤ k * 1048577 := by
  induction k with
  | zero => rw [toksV_nil]; exact Nat.zero_le _
  | succ k ih =>
    rw [Nat.succ_mul]
    by_cases hk : k < V.length
    · have hx := List.getElem?_eq_getElem hk
      rw [toksV_snoc hx, List.length_append, List.length_map]
      have := list_len V[k]
      have := h _ (List.getElem_mem hk)
      omega
    · have e1 : V.take k = V := List.take_of_length_le (by omega)
      have e2 : V.take (k + 1) = V := List.take_of_length_le (by omega)
      rw [e1] at ih
      rw [e2]
      exact Nat.le_trans ih (Nat.le_add_right _ _)
theorem map_snoc {l : List (List UInt8)} {k : Nat} {x : List UInt8} (f : List UInt8 → List UInt8) (h : l[k]? = some x) : (l.take (k + 1)).map f = (l.take k).map f ++ [f x] := by
  rw [take_snoc? h]; simp

set_option maxHeartbeats 2000000 in
theorem tokens_own (A : Option Addr) (n c : Nat) (l : List Fld) (name : List UInt8) (w : World) (hl : RdF w A n l) (hn : n ≤ 1048576) (hls : FlenS l) (hnm : name.length ≤ 1048576) :
    Calls Tryd.prog 16 #[.slice A n c, .string (bs name)] w fun e w' => ∃ A' n' c', e = .returned (.slice A' n' c') ∧ OwnS w' w.heap.size (.slice A' n' c') (tokensL l name) ∧ Below w.heap.size w w' := by
  have HV : Hid (∀ v ∈ valuesL l name, v.length ≤ 1048576) := Lib.hid fun v hv => values_each hls hv
  have HVl : Hid ((valuesL l name).length ≤ l.length) := Lib.hid (values_le l name)
  have HF : Hid (∀ V, V = valuesL l name → toksV V = tokensL l name) := Lib.hid (fun V h => by rw [h]; rfl)
  have hln := hl.1
  go_enter Tryd.func16, Tryd.ntmps16
  go_wp2_with fail
  refine (values_own A n c l name w hl (by omega) hls.ok (by omega)).mono ?_
  rintro e w1 ⟨A1, n1, c1, rfl, hS, hb1⟩
  have hrd := hS.rd
  clear hS hl hls
  generalize valuesL l name = V at *
  have HF2 : Hid (toksV (V.take n1) = tokensL l name) := Lib.hid (by rw [List.take_of_length_le (by rw [hrd.1]; exact Nat.le_refl _)]; exact HF.out V rfl)
  have hnl : n1 ≤ 1048576 := by have := HVl.out; rw [hrd.1] at this; omega
  clear HF HVl
  go_wp2
  go_loopw [5, 14] (fun v t wr => ∃ (k : Nat) (A' : Option Addr) (n' c' : Nat), k ≤ n1 ∧ t = .int .i64 k ∧ v = .slice A' n' c' ∧ OwnS wr w1.heap.size (.slice A' n' c') (toksV (V.take k)) ∧ Below w1.heap.size w1 wr) (fun _ t _ => n1 - (intOf t).toNat)
  case atStart => exact ⟨0, _, _, _, by omega, rfl, rfl, OwnS.nil _ _, Below.refl _ _⟩
  case round =>
    obtain ⟨k, A', n', c', hk, rfl, rfl, hown, hbr⟩ := hrel
    by_cases hlt : k < n1
    · obtain ⟨g, o, x, rfl, hg, HX, hc1⟩ := (hrd.step hbr).at_ hlt
      have HS := Lib.hid (toksV_snoc HX.out)
      have hxl : x.length ≤ 1048576 := HV.out x (mem_of_get? HX.out)
      have HK : Hid ((toksV (V.take k)).length ≤ k * 1048577) := Lib.hid (toksV_le V k HV.out)
      have HE : Hid (∀ (j : Nat) y, (listL x)[j]? = some y → y.length ≤ x.length) := Lib.hid fun j y h => list_each x (mem_of_get? h)
      have HEl := Lib.hid (list_len x)
      go_wp2_with fail
      refine (list_own x _ (by omega)).mono ?_
      rintro e wl ⟨A2, n2, c2, rfl, hE, hbl⟩
      have hown2 := hown.step hbl
      have hsep := sep_of hown hE
      have hEr := hE.rd
      have hbl2 := bnext hbr hbl hbr.size
      clear hE
      generalize listL x = E at *
      have hn2 : n2 ≤ 1048577 := by have := HEl.out; rw [hEr.1] at this; omega
      have HT : Hid ((E.take n2).map fold = E.map fold) := Lib.hid (by rw [List.take_of_length_le (by rw [hEr.1]; exact Nat.le_refl _)])
      clear hbl hown hbr hrd HF2 hc1
      obtain ⟨wo, rfl⟩ : ∃ wo, wo = wr := ⟨_, rfl⟩
      go_wp2
      go_loopw [5, 21] (fun v t wr => ∃ (j : Nat) (A' : Option Addr) (n' c' : Nat), j ≤ n2 ∧ t = .int .i64 j ∧ v = .slice A' n' c' ∧ OwnS wr w1.heap.size (.slice A' n' c') (toksV (V.take k) ++ (E.take j).map fold) ∧ RdS wr A2 n2 E ∧ Sep (.slice A' n' c') A2 n2 ∧ Below w1.heap.size w1 wr) (fun _ t _ => n2 - (intOf t).toNat)
      case atStart => exact ⟨0, _, _, _, by omega, rfl, rfl, by simpa using hown2, hEr, hsep, hbl2⟩
      case round =>
        obtain ⟨j, A', n', c', hj, rfl, rfl, hown, hEr, hsep, hbr⟩ := hrel
        by_cases hlj : j < n2
        · obtain ⟨g2, o2, y, rfl, hg2, HY, hd1⟩ := hEr.at_ hlj
          have hyl : y.length ≤ 1048576 := by have := HE.out j y HY.out; omega
          have HM := Lib.hid (map_snoc fold HY.out)
          have HJ : Hid ((toksV (V.take k) ++ (E.take j).map fold).length ≤ 1048576 * 1048577 + 1048577) := Lib.hid (by
            rw [List.length_append, List.length_map, List.length_take]
            have := HK.out
            have h2 : k * 1048577 ≤ 1048576 * 1048577 := Nat.mul_le_mul_right _ (by omega)
            omega)
          go_wp2_with fail
          refine (fold_any y _ (by omega)).mono ?_
          rintro e w3 ⟨rfl, hb3⟩
          have hown3 := hown.step hb3
          have hEr3 := hEr.step hb3
          have hbr3 := bnext hbr hb3 hbr.size
          generalize fold y = z at *
          clear hb3 hown hEr hbr
          go_wp2_with
            (at_builtin
             refine wp_appS2 rfl (.tmp 25) (.tmp 28) rfl w1.heap.size (.slice A' n' c') _ rfl (hown3.step (alloc_below _ _)) _ 1 1 [z] rfl ?hr ?hby ?hbase (hEr3.step (alloc_below _ _)) hsep ?_
             case hr => exact one_rdS' _ _ _ _ (by simp)
             case hby => have := HJ.out; omega
             case hbase => have := hbr3.size; simp; omega
             intro A3 n3 c3 w4 hown4 hb4 hEr4 hsep4 hn4)
          go_roundw
          case rel => exact ⟨j + 1, A3, n3, c3, by omega, by go_num, rfl, by rw [HM.out, ← List.append_assoc]; exact hown4, hEr4, hsep4, (bnext hbr3 (alloc_below _ _) hbr3.size).trans hb4⟩
          case measure => simp [intOf]; omega
        · obtain rfl : j = n2 := by omega
          go_wp2
          go_roundw
          case rel => exact ⟨k + 1, A', n', c', by omega, by go_num, rfl, by rw [HS.out, ← HT.out]; exact hown, hbr⟩
          case measure => simp [intOf]; omega
    · obtain rfl : k = n1 := by omega
      go_wp2
      go_ret
      exact ⟨A', n', c', rfl, by rw [← HF2.out]; exact hown.mono hb1.size, bnext hb1 hbr hb1.size⟩
end Go.Proofs.YtfhkgbimnfjfhaaDoor
