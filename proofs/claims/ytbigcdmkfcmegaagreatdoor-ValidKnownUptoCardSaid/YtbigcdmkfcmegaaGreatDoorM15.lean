/- Joined texts: Validators in plain Lean: what Ask asks, what is unchanged, a request with a response's own validators; The reference's Values: all values of a name; The reference's Get; Walks of the parts of a date's text: pad, clock, weekdays. The conditions stand in each line. -/
import Derived.Test.YtbigcdmkfcmegaaGreatDoorChecked
import Derived.Test.YtbigcdmkfcmegaaGreatDoorM1
import Derived.Test.YtbigcdmkfcmegaaGreatDoorM2
import Derived.Test.YtbigcdmkfcmegaaGreatDoorM5
import Derived.Test.YtbigcdmkfcmegaaGreatDoorM7
import Derived.Test.YtbigcdmkfcmegaaGreatDoorM9
import Derived.Test.YtbigcdmkfcmegaaGreatDoorM11
import Derived.Test.YtbigcdmkfcmegaaGreatDoorM14
import Derived.Deep.Cut
import Derived.Deep.DeepCutAuto
import Derived.Deep.RegionHeld3
import Derived.Below
import Derived.IntWalk
import Derived.Lib.AppendIntMem
set_option linter.unusedVariables false
set_option linter.unusedSimpArgs false
namespace Go.Proofs.YtbigcdmkfcmegaaGreatDoor
open Go.RowKit

set_option maxRecDepth 100000
namespace Val
open Frs
abbrev etagN : List UInt8 := [101, 116, 97, 103]
abbrev EtagN : List UInt8 := [69, 84, 97, 103]
abbrev inmN : List UInt8 := [105, 102, 45, 110, 111, 110, 101, 45, 109, 97, 116, 99, 104]
abbrev InmN : List UInt8 := [73, 102, 45, 78, 111, 110, 101, 45, 77, 97, 116, 99, 104]
abbrev imsN : List UInt8 := [105, 102, 45, 109, 111, 100, 105, 102, 105, 101, 100, 45, 115, 105, 110, 99, 101]
abbrev ImsN : List UInt8 := [73, 102, 45, 77, 111, 100, 105, 102, 105, 101, 100, 45, 83, 105, 110, 99, 101]
/-- Is it a tag? -/
def tagB (s : List UInt8) : Bool := (tgR s).2.2
/-- The fields that ask whether a response still holds. -/
def askL (l : List Fld) : List Fld := (if tagB (getL l etagN) = true then [(InmN, getL l etagN)] else []) ++ (if momO l lmN = true then [(ImsN, getL l lmN)] else [])
/-- Does an element name the tag? -/
def hitB (tag el : List UInt8) : Bool := el == [42] || sameR el tag false
def hitsB (tag v : List UInt8) : Bool := (listL v).any (hitB tag)
/-- Does a request know the response? -/
def unchL (ask : List Fld) (st : Int) (l : List Fld) : Bool :=
  if st = 200 then (if (valuesL ask inmN).isEmpty = true then (momO ask imsN && (momO l lmN && decide (momV l lmN ≤ momV ask imsN))) else (valuesL ask inmN).any (hitsB (getL l etagN))) else false
theorem trim_plainV {s : List UInt8} (hne : s ≠ []) (h0 : ∀ b, s[0]? = some b → blankB b = false) (h1 : ∀ b, s[s.length - 1]? = some b → blankB b = false) : trimL s = s := by
  have hl : 0 < s.length := List.length_pos_iff.2 hne
  rw [trimL_at s 0 s.length (by omega) (by omega) (fun j b hj => by omega) (fun j b hj h => by rw [List.getElem?_eq_none hj] at h; cases h) (fun _ => ⟨h0, h1⟩) (fun h => by omega)]
  simp
/-- What stands in quotes is one piece. -/
theorem pieces_q (c : UInt8) : ∀ (s cur : List UInt8), (∀ b ∈ s, b ≠ 34 ∧ b ≠ 92) → pieces c (s ++ [34]) true cur = [cur ++ (s ++ [34])]
  | [], cur, _ => by simp [pieces]
  | b :: r, cur, h => by
    obtain ⟨h1, h2⟩ := h b (by simp)
    have ih := pieces_q c r (cur ++ [b]) (fun x hx => h x (by simp [hx]))
    cases hd : r ++ [34] with
    | nil => simp at hd
    | cons d t =>
      rw [List.cons_append, hd]
      rw [hd] at ih
      simp only [pieces]
      rw [if_neg (by simpa using h2), if_neg (by simpa using h1), if_neg (by simp), ih]
      simp
theorem pieces_quoted (c : UInt8) (s cur : List UInt8) (h : ∀ b ∈ s, b ≠ 34 ∧ b ≠ 92) : pieces c (34 :: (s ++ [34])) false cur = [cur ++ 34 :: (s ++ [34])] := by
  have ih := pieces_q c s (cur ++ [34]) h
  cases hd : s ++ [34] with
  | nil => simp at hd
  | cons d t =>
    rw [hd] at ih
    simp only [pieces, Bool.false_and, Bool.false_eq_true, if_false, beq_self_eq_true, if_true, Bool.not_false]
    rw [ih]
    simp
/-- A tag, taken apart. -/
theorem tag_form {s : List UInt8} (h : tagB s = true) : ∃ inn, (∀ b ∈ inn, b ≠ 34) ∧ (s = 34 :: (inn ++ [34]) ∨ s = 87 :: 47 :: 34 :: (inn ++ [34])) := by
  have hok : tgOk (tgO s) = true := by
    unfold tagB tgR at h
    by_cases hk : tgOk (tgO s) = true
    · exact hk
    · rw [if_neg hk] at h; cases h
  have ho : s = tgO s ∨ s = 87 :: 47 :: tgO s := by
    unfold tgO cutP
    by_cases hp : preB [87, 47] s = true
    · right
      rw [if_pos hp]
      have h2 := eq_of_beq (show (s.take 2 == [87, 47]) = true from hp)
      have h3 := List.take_append_drop 2 s
      rw [h2] at h3
      exact h3.symm
    · left; rw [if_neg hp]
  generalize tgO s = o at *
  unfold tgOk at hok
  rw [Bool.and_eq_true, Bool.and_eq_true] at hok
  obtain ⟨h1, h2, h3⟩ := hok
  have hc : o = 34 :: o.drop 1 := by
    have h4 := eq_of_beq (show (o.take 1 == [34]) = true from h1)
    have h5 := List.take_append_drop 1 o
    rw [h4] at h5
    exact h5.symm
  have hcut : cutP [34] o = o.drop 1 := by unfold cutP; rw [if_pos h1]; rfl
  rw [hcut] at h2
  have hin : tgIn o = (o.drop 1).take ((o.drop 1).length - 1) := by
    unfold tgIn cutS
    rw [hcut, if_pos h2]; rfl
  have hl := sufB_len h2
  have hs : o.drop 1 = tgIn o ++ [34] := by
    have h4 := eq_of_beq (show ((o.drop 1).drop ((o.drop 1).length - 1) == [34]) = true from h2)
    rw [hin]
    have h5 := List.take_append_drop ((o.drop 1).length - 1) (o.drop 1)
    rw [h4] at h5
    exact h5.symm
  have hb : ∀ b ∈ tgIn o, b ≠ 34 := fun b hb e => by
    have := List.all_eq_true.1 h3 b hb
    subst e
    exact absurd this (by decide)
  refine ⟨tgIn o, hb, ?_⟩
  rw [← hs, ← hc]
  exact ho
theorem tag_list {s : List UInt8} (h : tagB s = true) (h92 : ∀ b ∈ s, b ≠ 92) : listL s = [s] := by
  obtain ⟨inn, hb, hs | hs⟩ := tag_form h
  · have hi : ∀ b ∈ inn, b ≠ 34 ∧ b ≠ 92 := fun b hm => ⟨hb b hm, h92 b (by rw [hs]; simp [hm])⟩
    have hp : splitL 44 s = [s] := by unfold splitL; rw [hs, pieces_quoted 44 inn [] hi]; rfl
    unfold listL
    rw [hp, List.map_cons, List.map_nil, trim_plainV (by rw [hs]; simp) (fun b hb => by rw [hs] at hb; simp at hb; subst hb; rfl) (fun b hb => by
      rw [hs, show (34 :: (inn ++ [34])).length - 1 = (34 :: inn).length by simp, show 34 :: (inn ++ [34]) = (34 :: inn) ++ [34] from rfl, List.getElem?_append_right (Nat.le_refl _)] at hb
      simp at hb; subst hb; rfl)]
    rw [hs]; simp
  · have hi : ∀ b ∈ inn, b ≠ 34 ∧ b ≠ 92 := fun b hm => ⟨hb b hm, h92 b (by rw [hs]; simp [hm])⟩
    have hp : splitL 44 s = [s] := by
      unfold splitL
      rw [hs]
      have := pieces_quoted 44 inn [87, 47] hi
      show pieces 44 (87 :: 47 :: 34 :: (inn ++ [34])) false [] = _
      simp only [pieces, Bool.false_and, Bool.false_eq_true, if_false, Bool.not_false, Bool.true_and]
      rw [if_neg (by decide), if_neg (by decide), if_neg (by decide), if_neg (by decide)]
      simpa using this
    unfold listL
    rw [hp, List.map_cons, List.map_nil, trim_plainV (by rw [hs]; simp) (fun b hb => by rw [hs] at hb; simp at hb; subst hb; rfl) (fun b hb => by
      rw [hs, show (87 :: 47 :: 34 :: (inn ++ [34])).length - 1 = (87 :: 47 :: 34 :: inn).length by simp, show 87 :: 47 :: 34 :: (inn ++ [34]) = (87 :: 47 :: 34 :: inn) ++ [34] from rfl, List.getElem?_append_right (Nat.le_refl _)] at hb
      simp at hb; subst hb; rfl)]
    rw [hs]; simp
theorem ask_none {l : List Fld} (h : askL l = []) : unchL (askL l) 200 l = false := by
  rw [h]
  have e1 : valuesL ([] : List Fld) inmN = [] := rfl
  have e2 : momO ([] : List Fld) imsN = false := by decide +kernel
  unfold unchL
  rw [e1, e2]
  rfl
theorem ask_known {l : List Fld} (h : askL l ≠ []) (h92 : ∀ f ∈ askL l, ∀ b ∈ f.2, b ≠ 92) : unchL (askL l) 200 l = true := by
  have f1 : ∀ x : List UInt8, isB (InmN, x) inmN = true := fun x => by unfold isB; show (fold InmN == fold inmN) = true; decide
  have f2 : ∀ x : List UInt8, isB (ImsN, x) inmN = false := fun x => by unfold isB; show (fold ImsN == fold inmN) = false; decide
  have f3 : ∀ x : List UInt8, isB (ImsN, x) imsN = true := fun x => by unfold isB; show (fold ImsN == fold imsN) = true; decide
  cases ht : tagB (getL l etagN) with
  | true =>
    have hv : valuesL (askL l) inmN = [getL l etagN] := by
      unfold valuesL askL
      rw [if_pos ht]
      cases momO l lmN with
      | true => simp only [List.cons_append, List.nil_append, if_true, List.filter_cons, List.filter_nil, f1, f2, Bool.false_eq_true, if_false, List.map_cons, List.map_nil]
      | false => simp only [List.append_nil, Bool.false_eq_true, if_false, List.filter_cons, List.filter_nil, f1, if_true, List.map_cons, List.map_nil]
    have hb : ∀ b ∈ getL l etagN, b ≠ 92 := h92 (InmN, getL l etagN) (by unfold askL; rw [if_pos ht]; simp)
    unfold unchL
    rw [if_pos rfl, hv]
    show [getL l etagN].any (hitsB (getL l etagN)) = true
    unfold hitsB
    rw [List.any_cons, tag_list ht hb]
    unfold hitB sameR
    unfold tagB at ht
    rw [List.any_cons, ht]
    simp
  | false =>
    cases hm : momO l lmN with
    | false => exact absurd (show askL l = [] by unfold askL; rw [ht, hm]; rfl) h
    | true =>
      have ha : askL l = [(ImsN, getL l lmN)] := by unfold askL; rw [ht, hm]; rfl
      have hv : valuesL (askL l) inmN = [] := by
        rw [ha]; unfold valuesL
        simp only [List.filter_cons, List.filter_nil, f2, Bool.false_eq_true, if_false, List.map_nil]
      have hg : getL (askL l) imsN = getL l lmN := by
        rw [ha]; unfold getL valuesL
        simp only [List.filter_cons, List.filter_nil, f3, if_true, List.map_cons, List.map_nil]
        rw [Lib.join_one]
      have e1 : momO (askL l) imsN = true := by
        unfold momO at *; rw [hg]; exact hm
      have e2 : momV (askL l) imsN = momV l lmN := by unfold momV; rw [hg]
      unfold unchL
      rw [if_pos rfl, hv, e1, e2, hm]
      simp
theorem ask_len (l : List Fld) : (askL l).length ≤ 2 := by
  unfold askL
  rw [List.length_append]
  split <;> split <;> simp
theorem ask_each {l : List Fld} {M : Nat} (h : ∀ n, (getL l n).length ≤ M) (hM : 17 ≤ M) : ∀ f ∈ askL l, f.1.length ≤ M ∧ f.2.length ≤ M := by
  intro f hf
  unfold askL at hf
  rw [List.mem_append] at hf
  rcases hf with hf | hf
  · split at hf
    · rw [List.mem_singleton] at hf; subst hf
      exact ⟨Nat.le_trans (show InmN.length ≤ 17 by decide) hM, h _⟩
    · simp at hf
  · split at hf
    · rw [List.mem_singleton] at hf; subst hf
      exact ⟨Nat.le_trans (show ImsN.length ≤ 17 by decide) hM, h _⟩
    · simp at hf
end Val
end Go.Proofs.YtbigcdmkfcmegaaGreatDoor
set_option linter.unusedVariables false
set_option linter.unusedSimpArgs false
namespace Go.Proofs.YtbigcdmkfcmegaaGreatDoor
open Go.RowKit

set_option maxHeartbeats 1000000 in
theorem valuesR_own (A : Option Addr) (n c : Nat) (l : List Fld) (name : List UInt8) (w : World) (hl : RdF w A n l) (hn : n * 32 ≤ 140737488355328) (hls : FlenOK l) (hnm : name.length ≤ 140737488355328) :
    Calls Tryz.prog 34 #[.slice A n c, .string (bs name)] w fun e w' => ∃ A' n' c', e = .returned (.slice A' n' c') ∧ OwnS w' w.heap.size (.slice A' n' c') (valuesL l name) ∧ Below w.heap.size w w' := by
  have HF : Hid (valuesL (l.take n) name = valuesL l name) := Lib.hid (by rw [List.take_of_length_le (by rw [hl.1]; exact Nat.le_refl _)])
  go_enter Tryz.func34, Tryz.ntmps34
  go_upto_region 2 with fail
  have hm := OwnS.made w
  have hbm := alloc_below w (.cells #[] 9)
  go_wp2
  go_loopw [5, 6] (fun v t wr => ∃ (k : Nat) (A' : Option Addr) (n' c' : Nat), k ≤ n ∧ t = .int .i64 k ∧ v = .slice A' n' c' ∧ OwnS wr w.heap.size (.slice A' n' c') (valuesL (l.take k) name) ∧ Below w.heap.size w wr) (fun _ t _ => n - (intOf t).toNat)
  case atStart => exact ⟨0, _, _, _, by omega, rfl, rfl, hm, hbm⟩
  case round =>
    obtain ⟨k, A', n', c', hk, rfl, rfl, hown, hbr⟩ := hrel
    clear hm hbm
    by_cases hlt : k < n
    · obtain ⟨g, o, nm, vl, rfl, hg, HX, hc1, hc2⟩ := (hl.step hbr).at_ hlt
      have hsl := hls _ (mem_of_get? HX.out)
      have hsl1 : nm.length ≤ 140737488355328 := hsl.1
      clear hsl
      have HS := Lib.hid (values_snoc (name := name) HX.out)
      have HL : Hid ((valuesL (l.take k) name).length ≤ k) := Lib.hid (by have := values_le (l.take k) name; simp at this; omega)
      clear hl hls
      go_wp2_with fail
      refine (lower_any nm _ hsl1).mono ?_
      rintro e w2 ⟨rfl, hb2⟩
      have hv2 : w2.cell? ⟨g, o + k * 2 + 1, none⟩ = some (.string (bs vl)) := (hb2.cell (p := ⟨g, o + k * 2 + 1, none⟩) hg).trans hc2
      go_wp2_with fail
      refine (lower_any name _ hnm).mono ?_
      rintro e w3 ⟨rfl, hb3⟩
      have hg2 : g < w2.heap.size := Nat.lt_of_lt_of_le hg hb2.size
      have hv3 : w3.cell? ⟨g, o + k * 2 + 1, none⟩ = some (.string (bs vl)) := (hb3.cell (p := ⟨g, o + k * 2 + 1, none⟩) hg2).trans hv2
      have hown2 := (hown.step hb2).step hb3
      have hbr1 := bnext hbr hb2 hbr.size
      have hbr2 := bnext hbr1 hb3 hbr1.size
      clear hown hbr hbr1 hb2 hb3 hc1 hc2 hv2
      cases hpv : isB (nm, vl) name
      · have HPV := Lib.hid hpv
        unfold isB at hpv
        go_wp2
        go_roundw
        case rel => exact ⟨k + 1, A', n', c', by omega, by go_num, rfl, by rw [HS.out]; simp only [HPV.out, Bool.false_eq_true, if_false, List.append_nil]; exact hown2, hbr2⟩
        case measure => simp [intOf]; omega
      · have HPV := Lib.hid hpv
        unfold isB at hpv
        go_wp2_with
          (at_builtin
           refine wp_appS rfl (.tmp 23) (.tmp 29) rfl w.heap.size (.slice A' n' c') _ rfl (hown2.step (alloc_below _ _)) _ 1 1 [vl] rfl ?hr ?hby ?hbase ?_
           case hr => exact one_rdS' _ _ _ _ (by simp)
           case hby => have := HL.out; omega
           case hbase => have := hbr2.size; simp; omega
           intro A3 n3 c3 w3 hown3 hb3 hn3)
        go_roundw
        case rel => exact ⟨k + 1, A3, n3, c3, by omega, by go_num, rfl, by rw [HS.out]; simp only [HPV.out, if_true]; exact hown3, (bnext hbr2 (alloc_below _ _) hbr2.size).trans hb3⟩
        case measure => simp [intOf]; omega
    · obtain rfl : k = n := by omega
      go_wp2
      go_ret
      exact ⟨A', n', c', rfl, by rw [← HF.out]; exact hown, hbr⟩
end Go.Proofs.YtbigcdmkfcmegaaGreatDoor
set_option linter.unusedVariables false
set_option linter.unusedSimpArgs false
namespace Go.Proofs.YtbigcdmkfcmegaaGreatDoor
open Go.RowKit

set_option maxRecDepth 100000
theorem ret_tup {a b : Value} (h : a = b) : Ending.returned a = .returned b := by rw [h]
theorem join_snocQ {V : List (List UInt8)} {sep : List UInt8} {k : Nat} {x : List UInt8} (h : V[k]? = some x) : Lib.join (V.take (k + 1)) sep = (if k = 0 then [] else Lib.join (V.take k) sep ++ sep) ++ x := by
  cases V with
  | nil => simp at h
  | cons y r =>
    cases k with
    | zero =>
      simp at h; subst h
      simp [Lib.join_one]
    | succ k =>
      rw [List.take_succ_cons, List.take_succ_cons, Lib.join_cons, Lib.join_cons, Lib.joinTail_take_succ sep r k x (by simpa using h), if_neg (by omega)]
      simp [List.append_assoc]
set_option maxHeartbeats 1000000 in
theorem getR_anyM (M : Nat) (A : Option Addr) (n c : Nat) (l : List Fld) (name : List UInt8) (w : World) (hl : RdF w A n l) (hn : n ≤ 1048576) (hls : FlenOK l) (hvv : ∀ v ∈ valuesL l name, v.length ≤ M) (hM : n * (2 + M) ≤ 17592186044416) (hnm : name.length ≤ 1048576) :
    Calls Tryz.prog 23 #[.slice A n c, .string (bs name)] w fun e w' => e = .returned (.tuple #[.string (bs (Lib.join (valuesL l name) [44, 32])), .bool (!(valuesL l name).isEmpty)]) ∧ Below w.heap.size w w' := by
  have HV : Hid (∀ v ∈ valuesL l name, v.length ≤ M) := Lib.hid hvv
  have HVl : Hid ((valuesL l name).length ≤ l.length) := Lib.hid (values_le l name)
  have HJ : Hid (∀ V, V = valuesL l name → Value.tuple #[.string (bs (Lib.join V [44, 32])), .bool (!V.isEmpty)] = .tuple #[.string (bs (Lib.join (valuesL l name) [44, 32])), .bool (!(valuesL l name).isEmpty)]) := Lib.hid fun V h => by rw [h]
  have hln := hl.1
  generalize Value.tuple #[.string (bs (Lib.join (valuesL l name) [44, 32])), .bool (!(valuesL l name).isEmpty)] = R at *
  go_enter Tryz.func23, Tryz.ntmps23
  go_wp2_with fail
  refine (valuesR_own A n c l name w hl (by omega) hls (by omega)).mono ?_
  rintro e w1 ⟨A1, n1, c1, rfl, hS, hb1⟩
  generalize valuesL l name = V at *
  have hrd := hS.rd
  have hnl : n1 ≤ 1048576 := by have := HVl.out; rw [hrd.1] at this; omega
  have hnv : n1 ≤ n := by have := HVl.out; rw [hrd.1] at this; omega
  have HJ2 := Lib.hid (HJ.out V rfl)
  have HE : Hid ((!V.isEmpty) = decide (0 < n1)) := Lib.hid (by
    rw [← hrd.1]
    cases V with
    | nil => rfl
    | cons x r => simp)
  have HL : Hid (∀ k, (Lib.join (V.take k) [44, 32]).length ≤ 17592186044416) := Lib.hid fun k => by
    refine Nat.le_trans (join_len [44, 32] M (V.take k) (fun x hx => HV.out x (List.mem_of_mem_take hx))) ?_
    have h1 : (V.take k).length ≤ n := by rw [List.length_take, hrd.1]; omega
    exact Nat.le_trans (Nat.mul_le_mul h1 (by simp)) hM
  have HVM : Hid (∀ x ∈ V, x.length ≤ 17592186044416) := Lib.hid fun x hx => by
    have h1 := HV.out x hx
    have h2 : 1 ≤ n := by
      have h0 : 0 < V.length := List.length_pos_of_mem hx
      have := hrd.1
      omega
    have h3 : 1 * (2 + M) ≤ n * (2 + M) := Nat.mul_le_mul h2 (Nat.le_refl _)
    omega
  have HT : Hid (V.take n1 = V) := Lib.hid (List.take_of_length_le (by rw [hrd.1]; exact Nat.le_refl _))
  have HV' := HV
  clear hS hl hls HJ HVl hln
  go_wp2
  go_loop [7, 8] (fun v t => ∃ k : Nat, k ≤ n1 ∧ t = .int .i64 k ∧ v = .string (bs (Lib.join (V.take k) [44, 32]))) (fun _ t => n1 - (intOf t).toNat)
  case atStart => exact ⟨0, by omega, rfl, rfl⟩
  case round =>
    obtain ⟨k, hk, rfl, rfl⟩ := hrel
    by_cases hlt : k < n1
    · obtain ⟨g, o, x, rfl, hg, HX, hc1⟩ := hrd.at_ hlt
      have HS := Lib.hid (join_snocQ (sep := [44, 32]) HX.out)
      have hx1 : x.length ≤ 17592186044416 := HVM.out x (mem_of_get? HX.out)
      have hx2 := HL.out k
      have hx3 := HL.out (k + 1)
      have HJ0 : Hid (k = 0 → Lib.join (List.take k V) [44, 32] = []) := Lib.hid (fun h => by subst h; rfl)
      generalize Lib.join (List.take k V) [44, 32] = J at *
      by_cases h0 : k = 0
      · subst h0
        simp only [Nat.add_zero] at hc1
        go_wp2
        go_round
        case rel => exact ⟨1, by omega, rfl, by rw [HS.out, HJ0.out rfl]; rfl⟩
        case measure => simp [intOf]; omega
      · have hk0 : 0 < k := by omega
        go_wp2
        go_round
        case rel => exact ⟨k + 1, by omega, by go_num, by rw [HS.out, if_neg h0, ← bs_append, ← bs_append]; rfl⟩
        case measure => simp [intOf]; omega
    · obtain rfl : k = n1 := by omega
      go_wp2
      go_ret2
      exact ⟨by rw [← HJ2.out, HE.out, HT.out]; rfl, hb1⟩
theorem getR_any (A : Option Addr) (n c : Nat) (l : List Fld) (name : List UInt8) (w : World) (hl : RdF w A n l) (hn : n ≤ 1048576) (hls : FlenS l) (hnm : name.length ≤ 1048576) :
    Calls Tryz.prog 23 #[.slice A n c, .string (bs name)] w fun e w' => e = .returned (.tuple #[.string (bs (Lib.join (valuesL l name) [44, 32])), .bool (!(valuesL l name).isEmpty)]) ∧ Below w.heap.size w w' :=
  getR_anyM 1048576 A n c l name w hl hn hls.ok (fun v hv => values_each hls hv) (Nat.le_trans (Nat.mul_le_mul hn (Nat.le_refl _)) (by omega)) hnm
end Go.Proofs.YtbigcdmkfcmegaaGreatDoor
set_option linter.unusedVariables false
set_option linter.unusedSimpArgs false
namespace Go.Proofs.YtbigcdmkfcmegaaGreatDoor
open Go.RowKit

theorem pad2_small {k : Nat} (h : k < 10) : [48] ++ Lib.decDigits k = Dt.pad2 (k : Int) := by
  rw [Lib.decDigits_one h]
  unfold Dt.pad2 Dt.dgt
  have e1 : (((k : Int) / 10) % 10).toNat = 0 := by omega
  have e2 : ((k : Int) % 10).toNat = k := by omega
  rw [e1, e2]; rfl
theorem pad2_big {k : Nat} (h1 : ¬ k < 10) (h : k < 100) : Lib.decDigits k = Dt.pad2 (k : Int) := by
  rw [Lib.decDigits_two h1 h]
  unfold Dt.pad2 Dt.dgt
  have e1 : (((k : Int) / 10) % 10).toNat = k / 10 := by omega
  have e2 : ((k : Int) % 10).toNat = k % 10 := by omega
  rw [e1, e2]
theorem dec_four {k : Nat} (h1 : 1000 ≤ k) (h : k < 10000) : Lib.decDigits k = Dt.pad4 (k : Int) := by
  rw [Lib.decDigits, dif_neg (by omega), Lib.decDigits, dif_neg (by omega), Lib.decDigits_two (by omega) (by omega)]
  unfold Dt.pad4 Dt.dgt
  have e1 : (((k : Int) / 1000) % 10).toNat = k / 10 / 10 / 10 := by omega
  have e2 : (((k : Int) / 100) % 10).toNat = k / 10 / 10 % 10 := by omega
  have e3 : (((k : Int) / 10) % 10).toNat = k / 10 % 10 := by omega
  have e4 : ((k : Int) % 10).toNat = k % 10 := by omega
  rw [e1, e2, e3, e4]; rfl
theorem rep_one (w : World) : Calls Tryz.prog 91 #[.string ⟨#[48]⟩, .int .i64 1] w fun e w' => e = .returned (.string (bs [48])) ∧ w = w' := (Tryz.strings_Repeat_one ⟨#[48]⟩ w).mono fun _ _ h => ⟨h.1, h.2.symm⟩
theorem rep_zero (w : World) : Calls Tryz.prog 91 #[.string ⟨#[48]⟩, .int .i64 0] w fun e w' => e = .returned (.string (bs [])) ∧ w = w' := (Tryz.strings_Repeat_zero ⟨#[48]⟩ w).mono fun _ _ h => ⟨h.1, h.2.symm⟩
abbrev Tab (w : World) : Prop := Lib.TabIs Tryz.prog w "internal/strconv.uint64pow10" .u64 Lib.pow10Tab
end Go.Proofs.YtbigcdmkfcmegaaGreatDoor
