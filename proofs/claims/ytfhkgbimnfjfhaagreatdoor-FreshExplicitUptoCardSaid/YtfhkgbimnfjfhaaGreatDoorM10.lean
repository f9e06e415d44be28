/- Joined texts: fields.Values: all values of a name; SameTexts: equal lists; The reference's List: the elements of a list; fields.Tokens: the elements of a name's values, in small letters; The reference's Lower: letters A to Z made small; The reference's Values: all values of a name. The conditions stand in each line. -/
import Derived.Test.YtfhkgbimnfjfhaaGreatDoorM4
import Derived.Test.YtfhkgbimnfjfhaaGreatDoorM8
import Derived.Test.YtfhkgbimnfjfhaaGreatDoorM9
import Derived.Deep.QuietTactic
import Derived.BigQuiet
import Derived.Deep.Cut
import Derived.Deep.DeepCutAuto
set_option linter.unusedVariables false
set_option linter.unusedSimpArgs false
namespace Go.Proofs.YtfhkgbimnfjfhaaGreatDoor
open Go.RowKit

def valuesL (l : List Fld) (name : List UInt8) : List (List UInt8) := (l.filter fun f => isB f name).map Prod.snd
theorem values_snoc {l : List Fld} {k : Nat} {x : Fld} {name : List UInt8} (h : l[k]? = some x) : valuesL (l.take (k + 1)) name = valuesL (l.take k) name ++ (if isB x name = true then [x.2] else []) := by
  unfold valuesL
  rw [take_snoc? h, List.filter_append, List.map_append]
  congr 1
  simp only [List.filter_cons, List.filter_nil]
  split <;> rfl
theorem values_le (l : List Fld) (name : List UInt8) : (valuesL l name).length ≤ l.length := by unfold valuesL; rw [List.length_map]; exact List.length_filter_le _ _

set_option maxHeartbeats 1000000 in
theorem values_own (A : Option Addr) (n c : Nat) (l : List Fld) (name : List UInt8) (w : World) (hl : RdF w A n l) (hn : n * 32 ≤ 140737488355328) (hls : FlenOK l) (hnm : name.length ≤ 140737488355328) :
    Calls Tryz.prog 43 #[.slice A n c, .string (bs name)] w fun e w' => ∃ A' n' c', e = .returned (.slice A' n' c') ∧ OwnS w' w.heap.size (.slice A' n' c') (valuesL l name) ∧ Below w.heap.size w w' := by
  have HF : Hid (valuesL (l.take n) name = valuesL l name) := Lib.hid (by rw [List.take_of_length_le (by rw [hl.1]; exact Nat.le_refl _)])
  go_enter Tryz.func43, Tryz.ntmps43
  go_wp2
  go_loopw [5, 10] (fun v t wr => ∃ (k : Nat) (A' : Option Addr) (n' c' : Nat), k ≤ n ∧ t = .int .i64 k ∧ v = .slice A' n' c' ∧ OwnS wr w.heap.size (.slice A' n' c') (valuesL (l.take k) name) ∧ Below w.heap.size w wr) (fun _ t _ => n - (intOf t).toNat)
  case atStart => exact ⟨0, _, _, _, by omega, rfl, rfl, OwnS.nil _ _, Below.refl _ _⟩
  case round =>
    obtain ⟨k, A', n', c', hk, rfl, rfl, hown, hbr⟩ := hrel
    by_cases hlt : k < n
    · obtain ⟨g, o, nm, vl, rfl, hg, HX, hc1, hc2⟩ := (hl.step hbr).at_ hlt
      have hsl := hls _ (mem_of_get? HX.out)
      have hsl1 : nm.length ≤ 140737488355328 := hsl.1
      clear hsl
      have HS := Lib.hid (values_snoc (name := name) HX.out)
      have HL : Hid ((valuesL (l.take k) name).length ≤ k) := Lib.hid (by have := values_le (l.take k) name; simp at this; omega)
      go_wp2_with fail
      refine (is_any nm vl name _ hsl1 hnm).mono ?_
      rintro e w2 ⟨rfl, hb2⟩
      have hal := alloc_below wr (.cells #[.string (bs nm), .string (bs vl)] 46)
      have hv2 : w2.cell? ⟨wr.heap.size, 1, none⟩ = some (.string (bs vl)) := by rw [hb2.cell (p := ⟨wr.heap.size, 1, none⟩) (by simp), cell_of_row _ _ _ _ _ _ (heap_alloc_new wr _)]; rfl
      have hown2 := (hown.step hal).step hb2
      have hbr2 := bnext (bnext hbr hal hbr.size) hb2 (by have := hbr.size; simp; omega)
      clear hal hb2
      cases hpv : isB (nm, vl) name
      · have HPV := Lib.hid hpv
        clear hpv
        go_wp2
        go_roundw
        case rel => exact ⟨k + 1, A', n', c', by omega, by go_num, rfl, by rw [HS.out]; simp only [HPV.out, Bool.false_eq_true, if_false, List.append_nil]; exact hown2, hbr2⟩
        case measure => simp [intOf]; omega
      · have HPV := Lib.hid hpv
        clear hpv
        go_wp2_with
          (at_builtin
           refine wp_appS rfl (.tmp 17) (.tmp 20) rfl w.heap.size (.slice A' n' c') _ rfl (hown2.step (alloc_below _ _)) _ 1 1 [vl] rfl ?hr ?hby ?hbase ?_
           case hr => exact one_rdS' _ _ _ _ (by simp)
           case hby => have := HL.out; omega
           case hbase => have := hbr2.size; simp; omega
           intro A3 n3 c3 w3 hown3 hb3 hn3)
        go_roundw
        case rel => exact ⟨k + 1, A3, n3, c3, by omega, by go_num, rfl, by rw [HS.out]; simp only [HPV.out, if_true]; exact hown3, (bnext hbr2 (alloc_below _ _) hbr2.size).trans hb3⟩
        case measure => simp [intOf]; omega
    · obtain rfl : k = n := by omega
      go_wp2
      go_ret
      exact ⟨A', n', c', rfl, by rw [← HF.out]; exact hown, hbr⟩

end Go.Proofs.YtfhkgbimnfjfhaaGreatDoor
set_option linter.unusedVariables false
set_option linter.unusedSimpArgs false
namespace Go.Proofs.YtfhkgbimnfjfhaaGreatDoor
open Go.RowKit

set_option maxHeartbeats 1000000 in
theorem listR_own (s : List UInt8) (w : World) (hs : s.length ≤ 1099511627776) :
    Calls Tryz.prog 82 #[.string (bs s)] w fun e w' => ∃ A' n' c', e = .returned (.slice A' n' c') ∧ OwnS w' w.heap.size (.slice A' n' c') (listL s) ∧ Below w.heap.size w w' := by
  have HL : Hid ((splitL 44 s).length ≤ s.length + 1) := Lib.hid (split_len 44 s)
  have HE : Hid (∀ (k : Nat) x, (splitL 44 s)[k]? = some x → x.length ≤ s.length) := Lib.hid fun k x h => split_each 44 s h
  have HF : Hid (∀ l, l = splitL 44 s → keepE (l.map trimL) = listL s) := Lib.hid (fun l h => by rw [h]; rfl)
  go_enter Tryz.func82, Tryz.ntmps82
  go_wp2_with fail
  refine (pieces_own s 44 w hs).mono ?_
  rintro e w1 ⟨A, n, c, rfl, hS, hb1⟩
  have hrd := hS.rd
  clear hS
  generalize splitL 44 s = L at *
  have HF2 : Hid (keepE ((L.take n).map trimL) = listL s) := Lib.hid (by rw [List.take_of_length_le (by rw [hrd.1]; exact Nat.le_refl _)]; exact HF.out L rfl)
  have hnl : n ≤ s.length + 1 := by have := HL.out; rw [hrd.1] at this; exact this
  clear HF HL
  go_upto_region 3 with fail
  have hm := OwnS.made w1
  have hbm := alloc_below w1 (.cells #[] 9)
  go_wp2
  go_loopw [4, 5] (fun v t wr => ∃ (k : Nat) (A' : Option Addr) (n' c' : Nat), k ≤ n ∧ t = .int .i64 k ∧ v = .slice A' n' c' ∧ OwnS wr w1.heap.size (.slice A' n' c') (keepE ((L.take k).map trimL)) ∧ Below w1.heap.size w1 wr) (fun _ t _ => n - (intOf t).toNat)
  case atStart => exact ⟨0, _, _, _, by omega, rfl, rfl, hm, hbm⟩
  case round =>
    obtain ⟨k, A', n', c', hk, rfl, rfl, hown, hbr⟩ := hrel
    clear hm hbm
    by_cases hlt : k < n
    · obtain ⟨g, o, x, rfl, hg, HX, hc1⟩ := (hrd.step hbr).at_ hlt
      have hxl := HE.out k x HX.out
      have HS : Hid (keepE ((L.take (k + 1)).map trimL) = keepE ((L.take k).map trimL) ++ (if (!(trimL x).isEmpty) = true then [trimL x] else [])) := Lib.hid (by
        rw [take_snoc? HX.out, List.map_append]; unfold keepE; rw [List.filter_append]; simp only [List.map_cons, List.map_nil, List.filter_cons, List.filter_nil])
      have HK : Hid ((keepE ((L.take k).map trimL)).length ≤ k) := Lib.hid (by have := keepE_le ((L.take k).map trimL); rw [List.length_map, List.length_take] at this; omega)
      clear hrd HE
      go_wp2_with fail
      refine (trimR_any x _ (by omega)).mono ?_
      rintro e w2 ⟨rfl, rfl⟩
      generalize trimL x = y at *
      cases hx : (!y.isEmpty)
      · have HX2 := Lib.hid hx
        go_wp2
        go_roundw
        case rel => exact ⟨k + 1, A', n', c', by omega, by go_num, rfl, by rw [HS.out]; simp only [HX2.out, Bool.false_eq_true, if_false, List.append_nil]; exact hown, hbr⟩
        case measure => simp [intOf]; omega
      · have HX2 := Lib.hid hx
        go_wp2_with
          (at_builtin
           refine wp_appS rfl (.tmp 23) (.tmp 25) rfl w1.heap.size (.slice A' n' c') _ rfl (hown.step (alloc_below _ _)) _ 1 1 [y] rfl ?hr ?hby ?hbase ?_
           case hr => exact one_rdS' _ _ _ _ (by simp)
           case hby => have := HK.out; omega
           case hbase => have := hbr.size; simp; omega
           intro A3 n3 c3 w3 hown3 hb3 hn3)
        go_roundw
        case rel => exact ⟨k + 1, A3, n3, c3, by omega, by go_num, rfl, by rw [HS.out]; simp only [HX2.out, if_true]; exact hown3, (bnext hbr (alloc_below _ _) hbr.size).trans hb3⟩
        case measure => simp [intOf]; omega
    · obtain rfl : k = n := by omega
      go_wp2
      go_ret
      exact ⟨A', n', c', rfl, by rw [← HF2.out]; exact hown.mono hb1.size, bnext hb1 hbr hb1.size⟩
end Go.Proofs.YtfhkgbimnfjfhaaGreatDoor
set_option linter.unusedVariables false
set_option linter.unusedSimpArgs false
namespace Go.Proofs.YtfhkgbimnfjfhaaGreatDoor
open Go.RowKit

/-- All texts are of at most 2^20 bytes. -/
def FlenS (l : List Fld) : Prop := ∀ f ∈ l, f.1.length ≤ 1048576 ∧ f.2.length ≤ 1048576
theorem FlenS.ok {l : List Fld} (h : FlenS l) : FlenOK l := fun f hf => ⟨by have := (h f hf).1; omega, by have := (h f hf).2; omega⟩
theorem values_each {l : List Fld} {name : List UInt8} (h : FlenS l) {v : List UInt8} (hv : v ∈ valuesL l name) : v.length ≤ 1048576 := by
  obtain ⟨f, hf, rfl⟩ := List.mem_map.1 hv
  exact (h f (List.mem_filter.1 hf).1).2
/-- The elements of values, in small letters. -/
def toksV (V : List (List UInt8)) : List (List UInt8) := (V.map fun v => (listL v).map fold).flatten
def tokensL (l : List Fld) (name : List UInt8) : List (List UInt8) := toksV (valuesL l name)
theorem toksV_snoc {V : List (List UInt8)} {k : Nat} {x : List UInt8} (h : V[k]? = some x) : toksV (V.take (k + 1)) = toksV (V.take k) ++ (listL x).map fold := by
  unfold toksV; rw [take_snoc? h]; simp
theorem toksV_nil (V : List (List UInt8)) : toksV (V.take 0) = [] := rfl
theorem toksV_le (V : List (List UInt8)) (k : Nat) (h : ∀ v ∈ V, v.length ≤ 1048576) : (toksV (V.take k)).length ≤ k * 1048577 := by
  induction k with
  | zero => rw [toksV_nil]; exact Nat.zero_le _
  | succ k ih =>
    rw [Nat.succ_mul]
    by_cases hk : k < V.length
    · have hx := List.getElem?_eq_getElem hk
      rw [toksV_snoc hx, List.length_append, List.length_map]
      have := list_len V[k]
      have := h _ (List.getElem_mem hk)
      omega
    · have e1 : V.take k = V := List.take_of_length_le (by omega)
      have e2 : V.take (k + 1) = V := List.take_of_length_le (by omega)
      rw [e1] at ih
      rw [e2]
      exact Nat.le_trans ih (Nat.le_add_right _ _)
theorem map_snoc {l : List (List UInt8)} {k : Nat} {x : List UInt8} (f : List UInt8 → List UInt8) (h : l[k]? = some x) : (l.take (k + 1)).map f = (l.take k).map f ++ [f x] := by
  rw [take_snoc? h]; simp

set_option maxHeartbeats 2000000 in
theorem tokens_own (A : Option Addr) (n c : Nat) (l : List Fld) (name : List UInt8) (w : World) (hl : RdF w A n l) (hn : n ≤ 1048576) (hls : FlenS l) (hnm : name.length ≤ 1048576) :
    Calls Tryz.prog 46 #[.slice A n c, .string (bs name)] w fun e w' => ∃ A' n' c', e = .returned (.slice A' n' c') ∧ OwnS w' w.heap.size (.slice A' n' c') (tokensL l name) ∧ Below w.heap.size w w' := by
  have HV : Hid (∀ v ∈ valuesL l name, v.length ≤ 1048576) := Lib.hid fun v hv => values_each hls hv
  have HVl : Hid ((valuesL l name).length ≤ l.length) := Lib.hid (values_le l name)
  have HF : Hid (∀ V, V = valuesL l name → toksV V = tokensL l name) := Lib.hid (fun V h => by rw [h]; rfl)
  have hln := hl.1
  go_enter Tryz.func46, Tryz.ntmps46
  go_wp2_with fail
  refine (values_own A n c l name w hl (by omega) hls.ok (by omega)).mono ?_
  rintro e w1 ⟨A1, n1, c1, rfl, hS, hb1⟩
  have hrd := hS.rd
  clear hS hl hls
  generalize valuesL l name = V at *
  have HF2 : Hid (toksV (V.take n1) = tokensL l name) := Lib.hid (by rw [List.take_of_length_le (by rw [hrd.1]; exact Nat.le_refl _)]; exact HF.out V rfl)
  have hnl : n1 ≤ 1048576 := by have := HVl.out; rw [hrd.1] at this; omega
  clear HF HVl
  go_wp2
  go_loopw [5, 14] (fun v t wr => ∃ (k : Nat) (A' : Option Addr) (n' c' : Nat), k ≤ n1 ∧ t = .int .i64 k ∧ v = .slice A' n' c' ∧ OwnS wr w1.heap.size (.slice A' n' c') (toksV (V.take k)) ∧ Below w1.heap.size w1 wr) (fun _ t _ => n1 - (intOf t).toNat)
  case atStart => exact ⟨0, _, _, _, by omega, rfl, rfl, OwnS.nil _ _, Below.refl _ _⟩
  case round =>
    obtain ⟨k, A', n', c', hk, rfl, rfl, hown, hbr⟩ := hrel
    by_cases hlt : k < n1
    · obtain ⟨g, o, x, rfl, hg, HX, hc1⟩ := (hrd.step hbr).at_ hlt
      have HS := Lib.hid (toksV_snoc HX.out)
      have hxl : x.length ≤ 1048576 := HV.out x (mem_of_get? HX.out)
      have HK : Hid ((toksV (V.take k)).length ≤ k * 1048577) := Lib.hid (toksV_le V k HV.out)
      have HE : Hid (∀ (j : Nat) y, (listL x)[j]? = some y → y.length ≤ x.length) := Lib.hid fun j y h => list_each x (mem_of_get? h)
      have HEl := Lib.hid (list_len x)
      go_wp2_with fail
      refine (list_own x _ (by omega)).mono ?_
      rintro e wl ⟨A2, n2, c2, rfl, hE, hbl⟩
      have hown2 := hown.step hbl
      have hsep := sep_of hown hE
      have hEr := hE.rd
      have hbl2 := bnext hbr hbl hbr.size
      clear hE
      generalize listL x = E at *
      have hn2 : n2 ≤ 1048577 := by have := HEl.out; rw [hEr.1] at this; omega
      have HT : Hid ((E.take n2).map fold = E.map fold) := Lib.hid (by rw [List.take_of_length_le (by rw [hEr.1]; exact Nat.le_refl _)])
      clear hbl hown hbr hrd HF2 hc1
      obtain ⟨wo, rfl⟩ : ∃ wo, wo = wr := ⟨_, rfl⟩
      go_wp2
      go_loopw [5, 21] (fun v t wr => ∃ (j : Nat) (A' : Option Addr) (n' c' : Nat), j ≤ n2 ∧ t = .int .i64 j ∧ v = .slice A' n' c' ∧ OwnS wr w1.heap.size (.slice A' n' c') (toksV (V.take k) ++ (E.take j).map fold) ∧ RdS wr A2 n2 E ∧ Sep (.slice A' n' c') A2 n2 ∧ Below w1.heap.size w1 wr) (fun _ t _ => n2 - (intOf t).toNat)
      case atStart => exact ⟨0, _, _, _, by omega, rfl, rfl, by simpa using hown2, hEr, hsep, hbl2⟩
      case round =>
        obtain ⟨j, A', n', c', hj, rfl, rfl, hown, hEr, hsep, hbr⟩ := hrel
        by_cases hlj : j < n2
        · obtain ⟨g2, o2, y, rfl, hg2, HY, hd1⟩ := hEr.at_ hlj
          have hyl : y.length ≤ 1048576 := by have := HE.out j y HY.out; omega
          have HM := Lib.hid (map_snoc fold HY.out)
          have HJ : Hid ((toksV (V.take k) ++ (E.take j).map fold).length ≤ 1048576 * 1048577 + 1048577) := Lib.hid (by
            rw [List.length_append, List.length_map, List.length_take]
            have := HK.out
            have h2 : k * 1048577 ≤ 1048576 * 1048577 := Nat.mul_le_mul_right _ (by omega)
            omega)
          go_wp2_with fail
          refine (fold_any y _ (by omega)).mono ?_
          rintro e w3 ⟨rfl, hb3⟩
          have hown3 := hown.step hb3
          have hEr3 := hEr.step hb3
          have hbr3 := bnext hbr hb3 hbr.size
          generalize fold y = z at *
          clear hb3 hown hEr hbr
          go_wp2_with
            (at_builtin
             refine wp_appS2 rfl (.tmp 25) (.tmp 28) rfl w1.heap.size (.slice A' n' c') _ rfl (hown3.step (alloc_below _ _)) _ 1 1 [z] rfl ?hr ?hby ?hbase (hEr3.step (alloc_below _ _)) hsep ?_
             case hr => exact one_rdS' _ _ _ _ (by simp)
             case hby => have := HJ.out; omega
             case hbase => have := hbr3.size; simp; omega
             intro A3 n3 c3 w4 hown4 hb4 hEr4 hsep4 hn4)
          go_roundw
          case rel => exact ⟨j + 1, A3, n3, c3, by omega, by go_num, rfl, by rw [HM.out, ← List.append_assoc]; exact hown4, hEr4, hsep4, (bnext hbr3 (alloc_below _ _) hbr3.size).trans hb4⟩
          case measure => simp [intOf]; omega
        · obtain rfl : j = n2 := by omega
          go_wp2
          go_roundw
          case rel => exact ⟨k + 1, A', n', c', by omega, by go_num, rfl, by rw [HS.out, ← HT.out]; exact hown, hbr⟩
          case measure => simp [intOf]; omega
    · obtain rfl : k = n1 := by omega
      go_wp2
      go_ret
      exact ⟨A', n', c', rfl, by rw [← HF2.out]; exact hown.mono hb1.size, bnext hb1 hbr hb1.size⟩
end Go.Proofs.YtfhkgbimnfjfhaaGreatDoor
set_option linter.unusedVariables false
set_option linter.unusedSimpArgs false
namespace Go.Proofs.YtfhkgbimnfjfhaaGreatDoor
open Go.RowKit

set_option maxHeartbeats 400000 in
theorem lower_any (s : List UInt8) (w : World) (hs : s.length ≤ 140737488355328) :
    Calls Tryz.prog 83 #[.string (bs s)] w fun e w' => e = .returned (.string (bs (fold s))) ∧ Below w.heap.size w w' := by
  have HE : Hid ((s.take s.length).map low = fold s) := Lib.hid (by rw [List.take_length]; rfl)
  go_enter Tryz.func83, Tryz.ntmps83
  go_upto_region 2 with fail
  have hm := OwnB.made w
  have hbm := alloc_below w (.cells #[] 5)
  go_wp2
  go_loopw [3, 4] (fun v t wr => ∃ (k : Nat) (A : Option Addr) (n c : Nat), k ≤ s.length ∧ t = .int .i64 k ∧ v = .slice A n c ∧ OwnB wr w.heap.size (.slice A n c) ((s.take k).map low) ∧ Below w.heap.size w wr) (fun _ t _ => s.length - (intOf t).toNat)
  case atStart => exact ⟨0, _, _, _, by omega, rfl, rfl, hm, hbm⟩
  case round =>
    obtain ⟨k, A, n, c, hk, rfl, rfl, hown, hbr⟩ := hrel
    clear hm hbm
    by_cases hlt : k < s.length
    · have HT : Hid ((s.take (k + 1)).map low = (s.take k).map low ++ [low s[k]]) := Lib.hid (by rw [take_snoc s k hlt, List.map_append]; rfl)
      have hc255 : (s[k].toNat : Int) ≤ 255 := by have := s[k].toNat_lt; omega
      have hlk : ((s.take k).map low).length = k := by simp; omega
      have HLK := Lib.hid hlk
      clear hlk
      by_cases hup : 65 ≤ s[k].toNat ∧ s[k].toNat ≤ 90
      · obtain ⟨hu1, hu2⟩ := hup
        have HV : Hid ((s[k].toNat : Int) + 32 = ((low s[k]).toNat : Int)) := Lib.hid (by rw [low_yes hu1 hu2]; rfl)
        go_upto_region 8 with fail
        rw [HV.out]
        generalize low s[k] = b at *
        go_wp2_with
          (at_builtin
           refine wp_appB rfl (.tmp 24) (.tmp 26) rfl w.heap.size (.slice A n c) _ rfl (hown.step (alloc_below _ _)) _ 1 1 [b] rfl (one_rdB _ _ _) ?hby ?hbase ?_
           case hby => rw [HLK.out]; omega
           case hbase => have := hbr.size; simp; omega
           intro A1 n1 c1 w1 hown1 hb1 hn1)
        go_roundw
        case rel => exact ⟨k + 1, A1, n1, c1, by omega, by go_num, rfl, by rw [HT.out]; exact hown1, (bnext hbr (alloc_below _ _) hbr.size).trans hb1⟩
        case measure => simp [intOf]; omega
      · have HV : Hid (s[k] = low s[k]) := Lib.hid (low_no hup).symm
        go_upto_region 8 with fail
        all_goals
          rw [HV.out]
          generalize low s[k] = b at *
          go_wp2_with
            (at_builtin
             refine wp_appB rfl (.tmp 24) (.tmp 26) rfl w.heap.size (.slice A n c) _ rfl (hown.step (alloc_below _ _)) _ 1 1 [b] rfl (one_rdB _ _ _) ?hby ?hbase ?_
             case hby => rw [HLK.out]; omega
             case hbase => have := hbr.size; simp; omega
             intro A1 n1 c1 w1 hown1 hb1 hn1)
          go_roundw
          case rel => exact ⟨k + 1, A1, n1, c1, by omega, by go_num, rfl, by rw [HT.out]; exact hown1, (bnext hbr (alloc_below _ _) hbr.size).trans hb1⟩
          case measure => simp [intOf]; omega
    · obtain rfl : k = s.length := by omega
      have hcb := conv_bs (w := wr) (A := A) (n := n) (l := fold s) (by rw [← HE.out]; exact hown.rd) c
      go_wp2
      go_ret
      exact ⟨rfl, hbr⟩
end Go.Proofs.YtfhkgbimnfjfhaaGreatDoor
set_option linter.unusedVariables false
set_option linter.unusedSimpArgs false
namespace Go.Proofs.YtfhkgbimnfjfhaaGreatDoor
open Go.RowKit

set_option maxHeartbeats 1000000 in
theorem valuesR_own (A : Option Addr) (n c : Nat) (l : List Fld) (name : List UInt8) (w : World) (hl : RdF w A n l) (hn : n * 32 ≤ 140737488355328) (hls : FlenOK l) (hnm : name.length ≤ 140737488355328) :
    Calls Tryz.prog 55 #[.slice A n c, .string (bs name)] w fun e w' => ∃ A' n' c', e = .returned (.slice A' n' c') ∧ OwnS w' w.heap.size (.slice A' n' c') (valuesL l name) ∧ Below w.heap.size w w' := by
  have HF : Hid (valuesL (l.take n) name = valuesL l name) := Lib.hid (by rw [List.take_of_length_le (by rw [hl.1]; exact Nat.le_refl _)])
  go_enter Tryz.func55, Tryz.ntmps55
  go_upto_region 2 with fail
  have hm := OwnS.made w
  have hbm := alloc_below w (.cells #[] 9)
  go_wp2
  go_loopw [5, 6] (fun v t wr => ∃ (k : Nat) (A' : Option Addr) (n' c' : Nat), k ≤ n ∧ t = .int .i64 k ∧ v = .slice A' n' c' ∧ OwnS wr w.heap.size (.slice A' n' c') (valuesL (l.take k) name) ∧ Below w.heap.size w wr) (fun _ t _ => n - (intOf t).toNat)
  case atStart => exact ⟨0, _, _, _, by omega, rfl, rfl, hm, hbm⟩
  case round =>
    obtain ⟨k, A', n', c', hk, rfl, rfl, hown, hbr⟩ := hrel
    clear hm hbm
    by_cases hlt : k < n
    · obtain ⟨g, o, nm, vl, rfl, hg, HX, hc1, hc2⟩ := (hl.step hbr).at_ hlt
      have hsl := hls _ (mem_of_get? HX.out)
      have hsl1 : nm.length ≤ 140737488355328 := hsl.1
      clear hsl
      have HS := Lib.hid (values_snoc (name := name) HX.out)
      have HL : Hid ((valuesL (l.take k) name).length ≤ k) := Lib.hid (by have := values_le (l.take k) name; simp at this; omega)
      clear hl hls
      go_wp2_with fail
      refine (lower_any nm _ hsl1).mono ?_
      rintro e w2 ⟨rfl, hb2⟩
      have hv2 : w2.cell? ⟨g, o + k * 2 + 1, none⟩ = some (.string (bs vl)) := (hb2.cell (p := ⟨g, o + k * 2 + 1, none⟩) hg).trans hc2
      go_wp2_with fail
      refine (lower_any name _ hnm).mono ?_
      rintro e w3 ⟨rfl, hb3⟩
      have hg2 : g < w2.heap.size := Nat.lt_of_lt_of_le hg hb2.size
      have hv3 : w3.cell? ⟨g, o + k * 2 + 1, none⟩ = some (.string (bs vl)) := (hb3.cell (p := ⟨g, o + k * 2 + 1, none⟩) hg2).trans hv2
      have hown2 := (hown.step hb2).step hb3
      have hbr1 := bnext hbr hb2 hbr.size
      have hbr2 := bnext hbr1 hb3 hbr1.size
      clear hown hbr hbr1 hb2 hb3 hc1 hc2 hv2
      cases hpv : isB (nm, vl) name
      · have HPV := Lib.hid hpv
        unfold isB at hpv
        go_wp2
        go_roundw
        case rel => exact ⟨k + 1, A', n', c', by omega, by go_num, rfl, by rw [HS.out]; simp only [HPV.out, Bool.false_eq_true, if_false, List.append_nil]; exact hown2, hbr2⟩
        case measure => simp [intOf]; omega
      · have HPV := Lib.hid hpv
        unfold isB at hpv
        go_wp2_with
          (at_builtin
           refine wp_appS rfl (.tmp 23) (.tmp 29) rfl w.heap.size (.slice A' n' c') _ rfl (hown2.step (alloc_below _ _)) _ 1 1 [vl] rfl ?hr ?hby ?hbase ?_
           case hr => exact one_rdS' _ _ _ _ (by simp)
           case hby => have := HL.out; omega
           case hbase => have := hbr2.size; simp; omega
           intro A3 n3 c3 w3 hown3 hb3 hn3)
        go_roundw
        case rel => exact ⟨k + 1, A3, n3, c3, by omega, by go_num, rfl, by rw [HS.out]; simp only [HPV.out, if_true]; exact hown3, (bnext hbr2 (alloc_below _ _) hbr2.size).trans hb3⟩
        case measure => simp [intOf]; omega
    · obtain rfl : k = n := by omega
      go_wp2
      go_ret
      exact ⟨A', n', c', rfl, by rw [← HF.out]; exact hown, hbr⟩
end Go.Proofs.YtfhkgbimnfjfhaaGreatDoor
