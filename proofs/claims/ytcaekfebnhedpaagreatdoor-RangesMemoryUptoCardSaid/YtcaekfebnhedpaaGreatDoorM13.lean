/- Joined texts: ranges.Parse; The statements' own Show: a number in decimal digits. The conditions stand in each line. -/
import Derived.Test.YtcaekfebnhedpaaGreatDoorM3
import Derived.Test.YtcaekfebnhedpaaGreatDoorM6
import Derived.Test.YtcaekfebnhedpaaGreatDoorM12
import Derived.Lib.ItoaNum
import Derived.Lib.ItoaLen
import Derived.IntWalk
import Derived.Deep.Cut
import Derived.Deep.DeepCutAuto
import Derived.Deep.LoopGhost
set_option linter.unusedVariables false
set_option linter.unusedSimpArgs false
namespace Go.Proofs.YtcaekfebnhedpaaGreatDoor
open Go.RowKit

set_option maxRecDepth 100000
namespace Rg
def addP (q : List Sp) (p : Sp) : List Sp := q ++ (if fullB p = true then [p] else [])
theorem spans_snoc {size : Int} {s : List UInt8} {p : Sp} (hp : spanL size s = some p) : ∀ {l : List (List UInt8)} {q : List Sp}, spansL size l = some q → spansL size (l ++ [s]) = some (addP q p)
  | [], q, h => by
    injection h with h; subst h
    show spansL size [s] = _
    unfold spansL; rw [hp]; show some (if fullB p = true then [p] else []) = some (addP [] p)
    unfold addP; simp
  | x :: r, q, h => by
    unfold spansL at h
    cases h1 : spanL size x with
    | none => rw [h1] at h; cases h
    | some p1 =>
      cases h2 : spansL size r with
      | none => rw [h1, h2] at h; cases h
      | some q' =>
        rw [h1, h2] at h
        injection h with h
        have ih := spans_snoc hp h2
        rw [List.cons_append]
        unfold spansL
        rw [h1, ih]
        subst h
        show some (if fullB p1 = true then p1 :: addP q' p else addP q' p) = _
        unfold addP
        split <;> simp
theorem spans_none {size : Int} {s : List UInt8} (hp : spanL size s = none) : ∀ {l : List (List UInt8)}, s ∈ l → spansL size l = none
  | x :: r, h => by
    unfold spansL
    rcases List.mem_cons.1 h with rfl | h
    · rw [hp]
    · rw [spans_none hp h]
      cases spanL size x <;> rfl
theorem parse_bad {v : List UInt8} {size : Int} (h : size < 0 ∨ headB v = false ∨ listL (v.drop 6) = [] ∨ 8 < (listL (v.drop 6)).length) : parseL v size = ([], 190) := by
  unfold parseL; rw [if_pos h]
theorem parse_good {v : List UInt8} {size : Int} (h0 : 0 ≤ size) (h1 : headB v = true) (h2 : listL (v.drop 6) ≠ []) (h3 : (listL (v.drop 6)).length ≤ 8) :
    (∀ s ∈ listL (v.drop 6), spanL size s = none → parseL v size = ([], 190)) ∧ (spansL size (listL (v.drop 6)) = some [] → parseL v size = ([], 191)) ∧ (∀ q, spansL size (listL (v.drop 6)) = some q → q ≠ [] → parseL v size = (q, 0)) := by
  have hn : ¬ (size < 0 ∨ headB v = false ∨ listL (v.drop 6) = [] ∨ 8 < (listL (v.drop 6)).length) := by
    rintro (h | h | h | h)
    · omega
    · rw [h1] at h; cases h
    · exact h2 h
    · omega
  refine ⟨fun s hs h => ?_, fun h => ?_, fun q h hq => ?_⟩
  · unfold parseL; rw [if_neg hn, spans_none h hs]
  · unfold parseL; rw [if_neg hn, h]
  · unfold parseL; rw [if_neg hn, h]
    cases q with
    | nil => exact absurd rfl hq
    | cons p r => rfl
end Rg
/-- What Parse answers. -/
def RgOut (w : World) (v : List UInt8) (size : Int) (e : Ending) (w' : World) : Prop :=
  ∃ A n c, e = .returned (.tuple #[.slice A n c, .int .i64 (Rg.parseL v size).2]) ∧ OwnP w' w.heap.size (.slice A n c) (Rg.parseL v size).1 ∧ Below w.heap.size w w'
theorem rgOut_bad {w w' : World} {v : List UInt8} {size : Int} {x : Int} (h : Rg.parseL v size = ([], x)) (hb : Below w.heap.size w w') : RgOut w v size (.returned (.tuple #[.slice none 0 0, .int .i64 x])) w' :=
  ⟨none, 0, 0, by rw [h], by rw [h]; exact OwnP.nil _ _, hb⟩
set_option maxHeartbeats 4000000 in
theorem parse19_p (v : List UInt8) (size : Int) (w : World) (hM : MaxL w) (hs : v.length ≤ 1073741824) (h0 : -9223372036854775808 ≤ size) (h1 : size ≤ 9223372036854775807) :
    Calls Tryz.prog 11 #[.string (bs v), .int .i64 size] w fun e w' => RgOut w v size e w' := by
  have HBD : Hid (∀ w', (size < 0 ∨ Rg.headB v = false) → Below w.heap.size w w' → RgOut w v size (.returned (.tuple #[.slice none 0 0, .int .i64 190])) w') := Lib.hid fun w' h hb => rgOut_bad (Rg.parse_bad (by rcases h with h | h; exact .inl h; exact .inr (.inl h))) hb
  by_cases hz : size < 0
  · have HR := Lib.hid (HBD.out w (.inl hz) (Below.refl _ _))
    clear HBD
    generalize RgOut w v size = O at *
    go_enter Tryz.func11, Tryz.ntmps11
    go_wp2
    exact HR.out
  by_cases h6 : v.length < 6
  · have HR := Lib.hid (HBD.out w (.inr (by unfold Rg.headB; rw [decide_eq_false (by omega)]; rfl)) (Below.refl _ _))
    clear HBD
    generalize RgOut w v size = O at *
    go_enter Tryz.func11, Tryz.ntmps11
    go_wp2
    exact HR.out
  have hC := fold_any (v.take 6) w (by rw [List.length_take]; omega)
  cases hh : (fold (v.take 6) == Rg.unitB) with
  | false =>
    have HR := Lib.hid fun w' => HBD.out w' (.inr (by unfold Rg.headB; rw [hh]; simp))
    have hne : (fold (v.take 6) == [98, 121, 116, 101, 115, 61]) = false := hh
    clear HBD hh
    generalize RgOut w v size = O at *
    generalize fold (v.take 6) = F at *
    go_enter Tryz.func11, Tryz.ntmps11
    go_wp2_with fail
    refine hC.mono ?_
    rintro e w1 ⟨rfl, hb1⟩
    go_wp2
    exact HR.out w1 hb1
  | true =>
    have hF : fold (v.take 6) = [98, 121, 116, 101, 115, 61] := eq_of_beq hh
    have hhead : Rg.headB v = true := by unfold Rg.headB; rw [hh, decide_eq_true (by omega)]; rfl
    rw [hF] at hC
    clear hF hh HBD
    have HLe := Lib.hid (list_len (v.drop 6))
    have hld : (v.drop 6).length ≤ v.length := by simp
    have hL := fun W => list_own (v.drop 6) W (by omega)
    have HE1 : Hid (∀ x ∈ listL (v.drop 6), x.length ≤ 1073741824) := Lib.hid fun x hx => by have := list_each _ hx; omega
    have HG := Lib.hid (Rg.parse_good (v := v) (size := size) (by omega) hhead)
    have HB2 : Hid ((listL (v.drop 6) = [] ∨ 8 < (listL (v.drop 6)).length) → Rg.parseL v size = ([], 190)) := Lib.hid fun h => Rg.parse_bad (by rcases h with h | h; exact .inr (.inr (.inl h)); exact .inr (.inr (.inr h)))
    have HO : Hid (∀ w' x, Rg.parseL v size = ([], x) → Below w.heap.size w w' → RgOut w v size (.returned (.tuple #[.slice none 0 0, .int .i64 x])) w') := Lib.hid fun w' x h hb => rgOut_bad h hb
    have HOK : Hid (∀ w' A n c q, Rg.parseL v size = (q, 0) → OwnP w' w.heap.size (.slice A n c) q → Below w.heap.size w w' → RgOut w v size (.returned (.tuple #[.slice A n c, .int .i64 0])) w') := Lib.hid fun w' A n c q h ho hb => ⟨A, n, c, by rw [h], by rw [h]; exact ho, hb⟩
    generalize RgOut w v size = O at *
    generalize Rg.parseL v size = PL at *
    generalize listL (v.drop 6) = L at *
    clear hhead hld
    go_enter Tryz.func11, Tryz.ntmps11
    go_wp2_with fail
    refine hC.mono ?_
    rintro e w1 ⟨rfl, hb1⟩
    clear hC
    go_wp2_with fail
    refine (hL w1).mono ?_
    rintro e w2 ⟨A, n, c, rfl, hown, hb2⟩
    have hrd := hown.rd
    have hbB := bnext hb1 hb2 hb1.size
    have hMx := maxl_b hM hbB
    clear hown hL hb1 hb2 hM
    have hln := hrd.1
    by_cases hn0 : n = 0
    · subst hn0
      have HR := Lib.hid (HO.out w2 190 (HB2.out (.inl (List.eq_nil_of_length_eq_zero hln))) hbB)
      clear HO HOK HG HB2
      go_wp2
      exact HR.out
    by_cases hn8 : 8 < n
    · have HR := Lib.hid (HO.out w2 190 (HB2.out (.inr (by omega))) hbB)
      clear HO HOK HG HB2
      go_wp2
      exact HR.out
    have HG2 := Lib.hid (HG.out (by intro h; rw [h] at hln; exact hn0 hln.symm) (by omega))
    have HT : Hid (L.take n = L) := Lib.hid (List.take_of_length_le (by omega))
    clear HG HB2
    have hln2 := Lib.hid hln
    have hn0' : ((n : Int) == 0) = false := by rw [beq_eq_false_iff_ne]; omega
    have hn8' : ¬ (8 : Int) < (n : Int) := by omega
    clear hln
    go_wp2
    go_loopw [7, 38] (fun ov t wr => ∃ (k : Nat) (A5 : Option Addr) (n5 c5 : Nat) (q : List Rg.Sp), k ≤ n ∧ t = .int .i64 k ∧ ov = .slice A5 n5 c5 ∧ OwnP wr w2.heap.size (.slice A5 n5 c5) q ∧ Hid (Rg.spansL size (L.take k) = some q) ∧ q.length ≤ k ∧ Below w2.heap.size w2 wr) (fun _ t _ => n - (intOf t).toNat)
    case atStart => exact ⟨0, none, 0, 0, [], by omega, rfl, rfl, OwnP.nil _ _, Lib.hid rfl, by simp, Below.refl _ _⟩
    case round =>
      obtain ⟨k, A5, n5, c5, q, hk, rfl, rfl, hown, HQ, hqk, hbr⟩ := hrel
      have hszr := hbr.size
      by_cases hlt : k < n
      · obtain ⟨g, oo, x, rfl, hg, HX, hc1⟩ := (hrd.step hbr).at_ hlt
        have hx1 := HE1.out x (mem_of_get? HX.out)
        have hC := span_any x size wr (maxl_b hMx hbr) hx1 (by omega) h1
        clear hrd
        cases hsp : Rg.spanL size x with
        | none =>
          have HR := Lib.hid fun w' => HO.out w' 190 (HG2.out.1 x (mem_of_get? HX.out) hsp)
          have HO2 : Hid (∀ v, Rg.spanO size x v → ∃ a b, v = .tuple #[.agg #[.int .i64 a, .int .i64 b], .bool false]) := Lib.hid fun v ⟨a, b, h, _⟩ => ⟨a, b, by rw [h, hsp]; rfl⟩
          clear HO HOK HG2 hsp
          go_wp2_with fail
          refine hC.mono ?_
          rintro e w3 ⟨v3, rfl, hv3, hb3⟩
          obtain ⟨a, b, rfl⟩ := HO2.out v3 hv3
          have HF := Lib.hid (HR.out _ (((bnext hbB hbr hbB.size).trans (hb3.mono (by have := hbB.size; omega))).trans ((alloc_below w3 (.cells #[.int .i64 a, .int .i64 b] 43)).mono (by have := hbB.size; have := hb3.size; omega))))
          clear HR HO2 hC hv3
          go_wp2
          exact HF.out
        | some p =>
          have HS2 := Lib.hid (Rg.spans_snoc hsp HQ.out)
          have HTK : Hid (L.take (k + 1) = L.take k ++ [x]) := Lib.hid (take_snoc? HX.out)
          have HO2 : Hid (∀ v, Rg.spanO size x v → v = .tuple #[.agg #[.int .i64 p.1, .int .i64 p.2], .bool true]) := Lib.hid fun v ⟨a, b, h, h2⟩ => by
            have := h2 p hsp
            rw [h, hsp, this]; rfl
          have HAP : Hid (Rg.addP q p = q ++ (if decide (p.1 ≤ p.2) = true then [p] else [])) := Lib.hid rfl
          have hpin := (Rg.span_in (by omega) hsp).2
          clear hsp
          obtain ⟨a, b⟩ := p
          dsimp only at HO2 HAP
          go_wp2_with fail
          refine hC.mono ?_
          rintro e w3 ⟨v3, rfl, hv3, hb3⟩
          obtain rfl := HO2.out v3 hv3
          have hbC := bnext hbr hb3 hbr.size
          have hown3 := hown.step hb3
          have hsz3 := hbC.size
          clear HO2 hC hv3 hb3 hown
          by_cases hab : a ≤ b
          · rw [decide_eq_true hab, if_pos rfl] at HAP
            have ho4 := ((hown3.step (alloc_below w3 (.cells #[.int .i64 a, .int .i64 b] 43))).step (alloc_below _ (.cells #[.int .i64 a, .int .i64 b] 43)))
            go_wp2_with
              (at_builtin; go_loud (
               refine wp_appP rfl (.tmp 55) (.tmp 57) rfl w2.heap.size (.slice A5 n5 c5) q rfl ?ho _ 1 1 [(a, b)] rfl ?hr ?hby ?hbase ?_
               case ho => exact ho4
               case hr => exact one_rdP' _ _ _ _ _ (by simp)
               case hby => omega
               case hbase => simp; omega
               intro A6 n6 c6 w6 hown6 hb6 hn6))
            go_roundw
            case rel => exact ⟨k + 1, A6, n6, c6, q ++ [(a, b)], by omega, by go_num, rfl, hown6, Lib.hid (by rw [HTK.out, HS2.out, HAP.out]), by simp; omega, (hbC.trans (((alloc_below w3 (.cells #[.int .i64 a, .int .i64 b] 43)).trans ((alloc_below _ (.cells #[.int .i64 a, .int .i64 b] 43)).mono (by simp))).mono (by omega))).trans hb6⟩
            case measure => simp [intOf]; omega
          · rw [decide_eq_false hab, if_neg (by decide), List.append_nil] at HAP
            go_wp2
            go_roundw
            case rel => exact ⟨k + 1, A5, n5, c5, q, by omega, by go_num, rfl, hown3.step (alloc_below w3 (.cells #[.int .i64 a, .int .i64 b] 43)), Lib.hid (by rw [HTK.out, HS2.out, HAP.out]), by omega, hbC.trans ((alloc_below w3 (.cells #[.int .i64 a, .int .i64 b] 43)).mono (by omega))⟩
            case measure => simp [intOf]; omega
      · obtain rfl : k = n := by omega
        have HQ2 : Hid (Rg.spansL size L = some q) := Lib.hid (by have := HQ.out; rwa [HT.out] at this)
        have hn5 := hown.rd.1
        by_cases hq0 : n5 = 0
        · subst hq0
          have hq : q = [] := List.eq_nil_of_length_eq_zero hn5
          have HR := Lib.hid (HO.out wr 191 (HG2.out.2.1 (by rw [HQ2.out, hq])) (bnext hbB hbr hbB.size))
          clear HO HOK HG2 HQ HQ2
          go_wp2
          exact HR.out
        · have HR := Lib.hid (HOK.out wr A5 n5 c5 q (HG2.out.2.2 q HQ2.out (by intro h; rw [h] at hn5; exact hq0 hn5.symm)) (hown.mono hbB.size) (bnext hbB hbr hbB.size))
          clear HO HOK HG2 HQ HQ2
          go_wp2
          exact HR.out
end Go.Proofs.YtcaekfebnhedpaaGreatDoor
set_option linter.unusedVariables false
set_option linter.unusedSimpArgs false
namespace Go.Proofs.YtcaekfebnhedpaaGreatDoor
open Go.RowKit

set_option maxRecDepth 100000
theorem one_rdBx (w : World) (b : UInt8) (t : TypeId) (x : Int) (h : x = (b.toNat : Int)) : RdB (w.alloc (.cells #[.int .u8 x] t)) (some ⟨w.heap.size, 0, none⟩) 1 [b] := by subst h; exact one_rdB w b t
def restD (r : Nat) : List UInt8 := if r = 0 then [] else Lib.decDigits r
theorem restD_step {r : Nat} (h : r ≠ 0) : restD r = restD (r / 10) ++ [UInt8.ofNat (48 + r % 10)] := by
  unfold restD
  rw [if_neg h, Lib.decDigits]
  by_cases h10 : r < 10
  · rw [dif_pos h10, if_pos (by omega)]
    simp [Nat.mod_eq_of_lt h10]
  · rw [dif_neg h10, if_neg (by omega)]
theorem dig_nat (r : Nat) : (UInt8.ofNat (48 + r % 10)).toNat = 48 + r % 10 := by
  rw [UInt8.toNat_ofNat']; omega
theorem dec_len {k : Nat} (h : k < 18446744073709551616) : (Lib.decDigits k).length ≤ 20 := by
  rw [Lib.decDigits_length]
  exact Lib.nDigits_le20 k h
set_option maxHeartbeats 4000000 in
theorem show_pos (k : Nat) (w : World) (hk : (k : Int) ≤ 9223372036854775807) :
    Calls Tryz.prog 22 #[.int .i64 k] w fun e w' => e = .returned (.string (bs (Lib.decDigits k))) ∧ Below w.heap.size w w' := by
  by_cases h0 : k = 0
  · subst h0
    have hb : (((0 : Nat) : Int) == 0) = true := rfl
    have HD : Hid (Lib.decDigits 0 = [48]) := Lib.hid (by rw [Lib.decDigits_one (by omega)]; rfl)
    go_enter Tryz.func22, Tryz.ntmps22
    go_wp2
    go_ret
    exact ⟨ret_str (by rw [HD.out]), Below.refl _ _⟩
  · have hb : ((k : Int) == 0) = false := by rw [beq_eq_false_iff_ne]; omega
    have hk0 : ¬ (k : Int) < 0 := by omega
    have hdk : decide ((k : Int) < 0) = false := by simp
    have HL := Lib.hid (dec_len (k := k) (by omega))
    have H0 : Hid (restD k ++ ([] : List UInt8).reverse = Lib.decDigits k) := Lib.hid (by unfold restD; rw [if_neg h0]; simp)
    generalize Lib.decDigits k = D at *
    have hm := OwnB.made w
    have hbm := alloc_below w (.cells #[] 5)
    go_enter Tryz.func22, Tryz.ntmps22
    go_upto_region 4 with fail
    generalize hw1 : w.alloc (.cells #[] 5) = w1 at *
    clear hw1
    go_wp2
    go_loopg [0, 3] k (fun q v ds wr => ∃ (r : Nat) (rd : List UInt8) (A : Option Addr) (n c : Nat), q = r ∧ r ≤ k ∧ v = .int .i64 (r : Int) ∧ ds = .slice A n c ∧ OwnB wr w.heap.size (.slice A n c) rd ∧ Hid (restD r ++ rd.reverse = D) ∧ Below w.heap.size w wr)
    case atStart => exact ⟨k, [], _, 0, 0, rfl, Nat.le_refl _, rfl, rfl, hm, H0, hbm⟩
    case round =>
      clear hm hbm H0
      obtain ⟨r, rd, A, n, c, hq, hrk, rfl, rfl, hown, HR, hbr⟩ := hrel
      obtain ⟨wo, rfl⟩ : ∃ wo, wo = wr := ⟨_, rfl⟩
      have hlen : rd.length ≤ 20 := by
        have h1 := congrArg List.length HR.out
        rw [List.length_append, List.length_reverse] at h1
        have := HL.out
        omega
      have hszr := hbr.size
      by_cases hr0 : r = 0
      · subst hr0
        have hbb : ((((0 : Nat) : Int)) != 0) = false := rfl
        have HF : Hid (rd.reverse = D) := Lib.hid (by have := HR.out; unfold restD at this; simpa using this)
        have hrd := hown.rd
        have hnr : rd.length = n := hrd.1
        have hal := alloc_below wo (.cells #[] 5)
        have hm := OwnB.made wo
        have hrd3 := hrd
        have hbr2 := bnext hbr hal hbr.size
        have HNR := Lib.hid hnr
        have hn20 : n ≤ 20 := by omega
        have hwn : IntKind.i64.wrap ((n : Int) - 1) = (n : Int) - 1 := IntWalk.i64_in _ (by omega)
        clear hown hrd HR hlen hnr HL hb hk0
        go_upto_region 14 with fail
        generalize hw2 : wo.alloc (.cells #[] 5) = w2 at *
        have hal9 : Below wo.heap.size wo w2 := hal
        clear hw2 hal
        go_wp2
        go_loopg [6, 7] n (fun q o t wq => ∃ (j : Nat) (A5 : Option Addr) (n5 c5 : Nat), j ≤ n ∧ q = j ∧ t = .int .i64 ((j : Int) - 1) ∧ o = .slice A5 n5 c5 ∧ OwnB wq wo.heap.size (.slice A5 n5 c5) (rd.drop j).reverse ∧ Below wo.heap.size wo wq)
        case atStart => exact ⟨n, _, 0, 0, by omega, rfl, rfl, rfl, by rw [List.drop_of_length_le (by rw [HNR.out]; exact Nat.le_refl _)]; exact hm, hal9⟩
        case round =>
          clear hm hal9
          obtain ⟨j, A5, n5, c5, hj, hq5, rfl, rfl, hown5, hb5⟩ := hrel
          obtain ⟨wp, rfl⟩ : ∃ wp, wp = wr := ⟨_, rfl⟩
          have hrd5 := hrd3.step hb5
          rcases Nat.eq_zero_or_pos j with rfl | hjp
          · have hneg : (((0 : Nat) : Int) - 1) = -1 := by omega
            rw [hneg]
            have hcv := conv_bs (w := wp) (A := A5) (n := n5) (l := D) (by have := hown5.rd; rw [List.drop_zero, HF.out] at this; exact this) c5
            clear hneg HF
            go_wp2
            go_ret
            exact ⟨rfl, hbr.trans (hb5.mono hbr.size)⟩
          · obtain ⟨i, rfl⟩ : ∃ i, j = i + 1 := ⟨j - 1, by omega⟩
            have hk1 : (((i + 1 : Nat) : Int) - 1) = (i : Int) := by omega
            rw [hk1]
            have hil : i < rd.length := by rw [HNR.out]; omega
            obtain ⟨g, o, rfl, hg, hc5⟩ := hrd5.2.2 (by omega)
            have hci := hc5 i (bytV rd[i]) (by simp [hil])
            have HRV : Hid ((rd.drop i).reverse = (rd.drop (i + 1)).reverse ++ [rd[i]]) := Lib.hid (by rw [List.drop_eq_getElem_cons hil]; simp)
            unfold bytV at hci
            have hrl : (rd.drop (i + 1)).reverse.length ≤ 20 := by have := HNR.out; simp; omega
            generalize rd[i] = b at *
            generalize (rd.drop (i + 1)).reverse = ro at *
            have i0 : (0 : Int) ≤ (i : Int) := by omega
            have i1 : (i : Int) < (n : Int) := by omega
            have hsz5 := hb5.size
            clear hk1 hc5 hrd5
            go_wp2_with
              (at_builtin; go_loud (
               refine wp_appB rfl (.tmp 41) (.tmp 46) rfl wo.heap.size (.slice A5 n5 c5) ro rfl (hown5.step (alloc_below _ _)) _ 1 1 [b] rfl (one_rdB _ _ _) ?hby2 ?hbase2 ?_
               case hby2 => omega
               case hbase2 => simp; omega
               intro A1 n1 c1 w1 hown1 hb1 hn1))
            go_roundg i
            case measure => omega
            case rel => exact ⟨i, A1, n1, c1, by omega, rfl, rfl, rfl, by rw [HRV.out]; exact hown1, (bnext hb5 (alloc_below _ _) hb5.size).trans hb1⟩
      · have hbb : ((r : Int) != 0) = true := by simp [hr0]
        have HST := Lib.hid (restD_step hr0)
        have HV : Hid ((48 : Int) + (r : Int) % 10 = ((UInt8.ofNat (48 + r % 10)).toNat : Int)) := Lib.hid (by rw [dig_nat]; omega)
        have hd0 : 0 ≤ (r : Int) % 10 := by omega
        have hd9 : (r : Int) % 10 ≤ 9 := by omega
        have hri : (r : Int) ≤ 9223372036854775807 := by omega
        generalize UInt8.ofNat (48 + r % 10) = b at *
        go_wp2_with
          (at_builtin; go_loud (
           refine wp_appB rfl (.tmp 21) (.tmp 25) rfl w.heap.size (.slice A n c) rd rfl (hown.step (alloc_below _ _)) _ 1 1 [b] rfl (one_rdBx _ _ _ _ ?hx) ?hby ?hbase ?_
           case hx => exact HV.out
           case hby => omega
           case hbase => simp; omega
           intro A1 n1 c1 w1 hown1 hb1 hn1))
        go_roundg (r / 10)
        case measure => omega
        case rel => exact ⟨r / 10, rd ++ [b], A1, n1, c1, rfl, by omega, by go_num, rfl, hown1, Lib.hid (by rw [← HR.out, HST.out]; simp), (bnext hbr (alloc_below _ _) hbr.size).trans hb1⟩
end Go.Proofs.YtcaekfebnhedpaaGreatDoor
