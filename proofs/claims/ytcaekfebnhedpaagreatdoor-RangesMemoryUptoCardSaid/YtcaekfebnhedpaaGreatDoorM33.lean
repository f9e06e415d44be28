/- Joined texts: The reference's Parse of a Range. The conditions stand in each line. -/
import Derived.Test.YtcaekfebnhedpaaGreatDoorM13
import Derived.Test.YtcaekfebnhedpaaGreatDoorM14
import Derived.Test.YtcaekfebnhedpaaGreatDoorM20
set_option linter.unusedVariables false
set_option linter.unusedSimpArgs false
namespace Go.Proofs.YtcaekfebnhedpaaGreatDoor
open Go.RowKit

set_option maxRecDepth 100000
namespace Rg
theorem cut_at {c : UInt8} {s : List UInt8} {k : Nat} (h1 : ∀ b ∈ s.take k, b ≠ c) (h2 : s[k]? = some c) : Ur.cutA c s = s.take k ∧ Ur.cutB c s = s.drop (k + 1) ∧ Ur.hasC c s = true := by
  obtain ⟨hk, he⟩ := List.getElem?_eq_some_iff.1 h2
  have hs : s.take k ++ c :: s.drop (k + 1) = s := by
    have := List.drop_eq_getElem_cons hk
    rw [he] at this
    rw [← this, List.take_append_drop]
  have := Ur.cut_of (c := c) (s.drop (k + 1)) (s.take k) h1
  rw [hs] at this
  refine ⟨this.1, ?_, ?_⟩
  · unfold Ur.cutB; rw [this.2]; rfl
  · unfold Ur.hasC; rw [this.2]; rfl
theorem cut_free {c : UInt8} : ∀ {s : List UInt8}, (∀ b ∈ s, b ≠ c) → Ur.hasC c s = false
  | [], _ => rfl
  | b :: r, h => by rw [Ur.hasC_ne r (h b (by simp))]; exact cut_free fun x hx => h x (by simp [hx])
/-- What the reference looks at. -/
theorem span_ref {size : Int} {s : List UInt8} {k : Nat} (h0 : 0 ≤ size) (h1 : ∀ b ∈ s.take k, b ≠ 45) (h2 : s[k]? = some 45) :
    (k = 0 → numL (s.drop (k + 1)) < 0 → spanL size s = none) ∧
    (k = 0 → 0 ≤ numL (s.drop (k + 1)) → spanL size s = some (size - min (numL (s.drop (k + 1))) size, size - 1)) ∧
    (k ≠ 0 → (numL (s.take k) < 0 ∨ (s.drop (k + 1) ≠ [] ∧ numL (s.drop (k + 1)) < numL (s.take k))) → spanL size s = none) ∧
    (k ≠ 0 → ¬ numL (s.take k) < 0 → ¬ (s.drop (k + 1) ≠ [] ∧ numL (s.drop (k + 1)) < numL (s.take k)) → spanL size s = some (numL (s.take k), if numL (s.drop (k + 1)) < 0 ∨ size - 1 < numL (s.drop (k + 1)) then size - 1 else numL (s.drop (k + 1)))) := by
  obtain ⟨e1, e2, e3⟩ := cut_at h1 h2
  have hk := lt_of_get? h2
  have hA : k = 0 → s.take k = [] := fun h => by subst h; rfl
  have hA2 : k ≠ 0 → s.take k ≠ [] := fun h e => by
    have := congrArg List.length e
    rw [List.length_take, List.length_nil] at this; omega
  have hB : s.drop (k + 1) = [] → numL (s.drop (k + 1)) = -1 := fun h => by rw [h]; rfl
  have hbb := num_bd (s.drop (k + 1))
  unfold spanL
  rw [e1, e2, e3]
  simp only [Bool.true_eq_false, if_false]
  generalize s.take k = A at *
  generalize s.drop (k + 1) = B at *
  generalize numL A = a at *
  generalize numL B = b at *
  refine ⟨fun h hb => ?_, fun h hb => ?_, fun h hb => ?_, fun h ha hb => ?_⟩
  · by_cases hne : B = []
    · rw [if_neg (by simp [hne]), if_pos (hA h), if_pos hb]
    · rw [if_pos ⟨hb, hne⟩]
  · rw [if_neg (by omega), if_pos (hA h), if_neg (by omega)]
  · by_cases hne : B = []
    · rw [if_neg (by simp [hne]), if_neg (hA2 h), if_pos]
      rcases hb with hb | hb
      · exact .inl hb
      · exact absurd hne hb.1
    · by_cases hb0 : b < 0
      · rw [if_pos ⟨hb0, hne⟩]
      · rw [if_neg (by omega), if_neg (hA2 h), if_pos]
        rcases hb with hb | hb
        · exact .inl hb
        · exact .inr ⟨by omega, hb.2⟩
  · have hb0 : ¬ (b < 0 ∧ B ≠ []) := fun ⟨h3, h4⟩ => hb ⟨h4, by omega⟩
    have hb1 : ¬ (a < 0 ∨ (0 ≤ b ∧ b < a)) := by
      rintro (h3 | ⟨h3, h4⟩)
      · exact ha h3
      · by_cases hne : B = []
        · have := hB hne; omega
        · exact hb ⟨hne, h4⟩
    rw [if_neg hb0, if_neg (hA2 h), if_neg hb1]
    congr 2
    split <;> split <;> omega
end Rg
set_option maxHeartbeats 4000000 in
theorem parse19_r (v : List UInt8) (size : Int) (w : World) (hM : MaxL w) (hs : v.length ≤ 1073741824) (h0 : -9223372036854775808 ≤ size) (h1 : size ≤ 9223372036854775807) :
    Calls Tryz.prog 12 #[.string (bs v), .int .i64 size] w fun e w' => RgOut w v size e w' := by
  have HBD : Hid (∀ w', (size < 0 ∨ Rg.headB v = false) → Below w.heap.size w w' → RgOut w v size (.returned (.tuple #[.slice none 0 0, .int .i64 190])) w') := Lib.hid fun w' h hb => rgOut_bad (Rg.parse_bad (by rcases h with h | h; exact .inl h; exact .inr (.inl h))) hb
  by_cases hz : size < 0
  · have HR := Lib.hid (HBD.out w (.inl hz) (Below.refl _ _))
    clear HBD
    generalize RgOut w v size = O at *
    go_enter Tryz.func12, Tryz.ntmps12
    go_wp2
    exact HR.out
  by_cases h6 : v.length < 6
  · have HR := Lib.hid (HBD.out w (.inr (by unfold Rg.headB; rw [decide_eq_false (by omega)]; rfl)) (Below.refl _ _))
    clear HBD
    generalize RgOut w v size = O at *
    go_enter Tryz.func12, Tryz.ntmps12
    go_wp2
    exact HR.out
  have hC := lower_any (v.take 6) w (by rw [List.length_take]; omega)
  cases hh : (fold (v.take 6) == Rg.unitB) with
  | false =>
    have HR := Lib.hid fun w' => HBD.out w' (.inr (by unfold Rg.headB; rw [hh]; simp))
    have hne : (fold (v.take 6) == [98, 121, 116, 101, 115, 61]) = false := hh
    clear HBD hh
    generalize RgOut w v size = O at *
    generalize fold (v.take 6) = F at *
    go_enter Tryz.func12, Tryz.ntmps12
    go_wp2_with fail
    refine hC.mono ?_
    rintro e w1 ⟨rfl, hb1⟩
    go_wp2
    exact HR.out w1 hb1
  | true =>
    have hF : fold (v.take 6) = [98, 121, 116, 101, 115, 61] := eq_of_beq hh
    have hhead : Rg.headB v = true := by unfold Rg.headB; rw [hh, decide_eq_true (by omega)]; rfl
    rw [hF] at hC
    clear hF hh HBD
    have HLe := Lib.hid (list_len (v.drop 6))
    have hld : (v.drop 6).length ≤ v.length := by simp
    have hL := fun W => listR_own (v.drop 6) W (by omega)
    have HE1 : Hid (∀ x ∈ listL (v.drop 6), x.length ≤ 1073741824) := Lib.hid fun x hx => by have := list_each _ hx; omega
    have HG := Lib.hid (Rg.parse_good (v := v) (size := size) (by omega) hhead)
    have HB2 : Hid ((listL (v.drop 6) = [] ∨ 8 < (listL (v.drop 6)).length) → Rg.parseL v size = ([], 190)) := Lib.hid fun h => Rg.parse_bad (by rcases h with h | h; exact .inr (.inr (.inl h)); exact .inr (.inr (.inr h)))
    have HO : Hid (∀ w' x, Rg.parseL v size = ([], x) → Below w.heap.size w w' → RgOut w v size (.returned (.tuple #[.slice none 0 0, .int .i64 x])) w') := Lib.hid fun w' x h hb => rgOut_bad h hb
    have HOK : Hid (∀ w' A n c q, Rg.parseL v size = (q, 0) → OwnP w' w.heap.size (.slice A n c) q → Below w.heap.size w w' → RgOut w v size (.returned (.tuple #[.slice A n c, .int .i64 0])) w') := Lib.hid fun w' A n c q h ho hb => ⟨A, n, c, by rw [h], by rw [h]; exact ho, hb⟩
    generalize RgOut w v size = O at *
    generalize Rg.parseL v size = PL at *
    generalize listL (v.drop 6) = L at *
    clear hhead hld
    go_enter Tryz.func12, Tryz.ntmps12
    go_wp2_with fail
    refine hC.mono ?_
    rintro e w1 ⟨rfl, hb1⟩
    clear hC
    go_wp2_with fail
    refine (hL w1).mono ?_
    rintro e w2 ⟨A, n, c, rfl, hown, hb2⟩
    have hrd := hown.rd
    have hbB := bnext hb1 hb2 hb1.size
    have hMx := maxl_b hM hbB
    clear hown hL hb1 hb2 hM
    have hln := hrd.1
    by_cases hn0 : n = 0
    · subst hn0
      have HR := Lib.hid (HO.out w2 190 (HB2.out (.inl (List.eq_nil_of_length_eq_zero hln))) hbB)
      clear HO HOK HG HB2
      go_wp2
      exact HR.out
    by_cases hn8 : 8 < n
    · have HR := Lib.hid (HO.out w2 190 (HB2.out (.inr (by omega))) hbB)
      clear HO HOK HG HB2
      go_wp2
      exact HR.out
    have HG2 := Lib.hid (HG.out (by intro h; rw [h] at hln; exact hn0 hln.symm) (by omega))
    have HT : Hid (L.take n = L) := Lib.hid (List.take_of_length_le (by omega))
    clear HG HB2
    have hln2 := Lib.hid hln
    have hn0' : ((n : Int) == 0) = false := by rw [beq_eq_false_iff_ne]; omega
    have hn8' : ¬ (8 : Int) < (n : Int) := by omega
    clear hln
    have hmd := OwnP.made w2
    have hbm := alloc_below w2 (.cells #[] 43)
    go_upto_region 6 with fail
    go_wp2
    go_loopw [7, 8] (fun ov t wr => ∃ (k : Nat) (A5 : Option Addr) (n5 c5 : Nat) (q : List Rg.Sp), k ≤ n ∧ t = .int .i64 k ∧ ov = .slice A5 n5 c5 ∧ OwnP wr w2.heap.size (.slice A5 n5 c5) q ∧ Hid (Rg.spansL size (L.take k) = some q) ∧ q.length ≤ k ∧ Below w2.heap.size w2 wr) (fun _ t _ => n - (intOf t).toNat)
    case atStart => exact ⟨0, _, 0, 0, [], by omega, rfl, rfl, hmd, Lib.hid rfl, by simp, hbm⟩
    case round =>
      obtain ⟨k, A5, n5, c5, q, hk, rfl, rfl, hown, HQ, hqk, hbr⟩ := hrel
      clear hmd hbm
      have hszr := hbr.size
      by_cases hlt : k < n
      · obtain ⟨g, oo, x, rfl, hg, HX, hc1⟩ := (hrd.step hbr).at_ hlt
        have hx1 := HE1.out x (mem_of_get? HX.out)
        clear hrd
        obtain ⟨wo, rfl⟩ : ∃ wo, wo = wr := ⟨_, rfl⟩
        have HNO := Lib.hid fun (hsp : Rg.spanL size x = none) w' => HO.out w' 190 (HG2.out.1 x (mem_of_get? HX.out) hsp)
        have HYES := Lib.hid fun (p : Rg.Sp) (hsp : Rg.spanL size x = some p) => Rg.spans_snoc hsp HQ.out
        have HFREE : Hid ((∀ b ∈ x.take x.length, b ≠ 45) → Rg.spanL size x = none) := Lib.hid fun h => by
          rw [List.take_length] at h
          unfold Rg.spanL; rw [if_pos (Rg.cut_free h)]
        have HREF := Lib.hid fun (j : Nat) (h1 : ∀ b ∈ x.take j, b ≠ 45) (h2 : x[j]? = some 45) => Rg.span_ref (size := size) (by omega) h1 h2
        have HTK : Hid (L.take (k + 1) = L.take k ++ [x]) := Lib.hid (take_snoc? HX.out)
        generalize Rg.spanL size x = SP at *
        go_wp2
        go_loopw [10] (fun t wr => ∃ j : Nat, j ≤ x.length ∧ t = .int .i64 j ∧ Hid (∀ b ∈ x.take j, b ≠ 45) ∧ wr = wo) (fun t _ => x.length - (intOf t).toNat)
        case atStart => exact ⟨0, by omega, rfl, Lib.hid (by simp), rfl⟩
        case round =>
          obtain ⟨j, hj, rfl, HA, hw⟩ := hrel
          subst hw
          by_cases hlj : j < x.length
          · by_cases hb : x[j] = 45
            · have hb1 : ((x[j].toNat : Int) == 45) = true := by rw [hb]; rfl
              have hb2 : ((x[j].toNat : Int) != 45) = false := by rw [hb]; rfl
              have hjl : ((j : Int) == (x.length : Int)) = false := by rw [beq_eq_false_iff_ne]; omega
              obtain ⟨r1, r2, r3, r4⟩ := HREF.out j HA.out (by rw [List.getElem?_eq_getElem hlj, hb])
              have R1 := Lib.hid r1
              have R2 := Lib.hid r2
              have R3 := Lib.hid r3
              have R4 := Lib.hid r4
              have ha := Rg.num_bd (x.take j)
              have hbb := Rg.num_bd (x.drop (j + 1))
              have hNA := fun W => numG_any (x.take j) W
              have hNB := fun W => numG_any (x.drop (j + 1)) W
              have hBN : Hid (x.drop (j + 1) = [] → numL (x.drop (j + 1)) = -1) := Lib.hid fun h => by rw [h]; rfl
              clear HREF HFREE HO HOK r1 r2 r3 r4 hb HA
              generalize numL (x.take j) = a at *
              generalize numL (x.drop (j + 1)) = b at *
              by_cases hj0 : j = 0
              · have hjz : ((j : Int) == 0) = true := by rw [beq_iff_eq]; omega
                have R1 := Lib.hid (R1.out hj0)
                have R2 := Lib.hid (R2.out hj0)
                clear R3 R4 hj0
                by_cases hbn : b < 0
                · have HR := Lib.hid (HNO.out (R1.out hbn) wr (bnext hbB hbr hbB.size))
                  clear R1 R2 HNO HYES
                  go_wp2_with fail
                  refine (hNA wr).mono ?_
                  rintro e w9 ⟨rfl, rfl⟩
                  clear hNA
                  go_wp2_with fail
                  refine (hNB wr).mono ?_
                  rintro e w9 ⟨rfl, rfl⟩
                  clear hNB
                  go_wp2
                  exact HR.out
                · have HS2 := Lib.hid (HYES.out _ (R2.out (by omega)))
                  clear R1 R2 HNO HYES
                  by_cases hbs : size < b
                  · have hmin : min b size = size := by omega
                    rw [hmin, Int.sub_self] at HS2
                    by_cases hs0 : 0 < size
                    · go_wp2_with fail
                      refine (hNA wr).mono ?_
                      rintro e w9 ⟨rfl, rfl⟩
                      clear hNA
                      go_wp2_with fail
                      refine (hNB wr).mono ?_
                      rintro e w9 ⟨rfl, rfl⟩
                      clear hNB
                      go_wp2_with
                        (at_builtin; go_loud (
                         refine wp_appP rfl (.tmp 83) (.tmp 90) rfl w2.heap.size (.slice A5 n5 c5) q rfl ?ho _ 1 1 [(0, size - 1)] rfl ?hr ?hby ?hbase ?_
                         case ho => exact hown.step (alloc_below _ _)
                         case hr => exact one_rdP' _ _ _ _ _ (by simp)
                         case hby => omega
                         case hbase => simp; omega
                         intro A6 n6 c6 w6 hown6 hb6 hn6))
                      go_roundw
                      case rel => exact ⟨k + 1, A6, n6, c6, q ++ [(0, size - 1)], by omega, by go_num, rfl, hown6, Lib.hid (by rw [HTK.out, HS2.out]; unfold Rg.addP; rw [if_pos (show Rg.fullB (_, _) = true from decide_eq_true (by show (_ : Int) ≤ _; omega))]), by simp; omega, (hbr.trans ((alloc_below wr _).mono hszr)).trans hb6⟩
                      case measure => simp [intOf]; omega
                    · go_wp2_with fail
                      refine (hNA wr).mono ?_
                      rintro e w9 ⟨rfl, rfl⟩
                      clear hNA
                      go_wp2_with fail
                      refine (hNB wr).mono ?_
                      rintro e w9 ⟨rfl, rfl⟩
                      clear hNB
                      go_wp2
                      all_goals
                        go_roundw
                        case rel => exact ⟨k + 1, A5, n5, c5, q, by omega, by go_num, rfl, hown, Lib.hid (by rw [HTK.out, HS2.out]; unfold Rg.addP; rw [if_neg (by first | (simp [Rg.fullB]; done) | (simp [Rg.fullB]; omega)), List.append_nil]), by omega, hbr⟩
                        case measure => simp [intOf]; omega
                  · have hmin : min b size = b := by omega
                    rw [hmin] at HS2
                    by_cases hs0 : 0 < b
                    · go_wp2_with fail
                      refine (hNA wr).mono ?_
                      rintro e w9 ⟨rfl, rfl⟩
                      clear hNA
                      go_wp2_with fail
                      refine (hNB wr).mono ?_
                      rintro e w9 ⟨rfl, rfl⟩
                      clear hNB
                      go_wp2_with
                        (at_builtin; go_loud (
                         refine wp_appP rfl (.tmp 83) (.tmp 90) rfl w2.heap.size (.slice A5 n5 c5) q rfl ?ho _ 1 1 [(size - b, size - 1)] rfl ?hr ?hby ?hbase ?_
                         case ho => exact hown.step (alloc_below _ _)
                         case hr => exact one_rdP' _ _ _ _ _ (by simp)
                         case hby => omega
                         case hbase => simp; omega
                         intro A6 n6 c6 w6 hown6 hb6 hn6))
                      go_roundw
                      case rel => exact ⟨k + 1, A6, n6, c6, q ++ [(size - b, size - 1)], by omega, by go_num, rfl, hown6, Lib.hid (by rw [HTK.out, HS2.out]; unfold Rg.addP; rw [if_pos (show Rg.fullB (_, _) = true from decide_eq_true (by show (_ : Int) ≤ _; omega))]), by simp; omega, (hbr.trans ((alloc_below wr _).mono hszr)).trans hb6⟩
                      case measure => simp [intOf]; omega
                    · go_wp2_with fail
                      refine (hNA wr).mono ?_
                      rintro e w9 ⟨rfl, rfl⟩
                      clear hNA
                      go_wp2_with fail
                      refine (hNB wr).mono ?_
                      rintro e w9 ⟨rfl, rfl⟩
                      clear hNB
                      go_wp2
                      all_goals
                        go_roundw
                        case rel => exact ⟨k + 1, A5, n5, c5, q, by omega, by go_num, rfl, hown, Lib.hid (by rw [HTK.out, HS2.out]; unfold Rg.addP; rw [if_neg (by first | (simp [Rg.fullB]; done) | (simp [Rg.fullB]; omega)), List.append_nil]), by omega, hbr⟩
                        case measure => simp [intOf]; omega
              · have hjz : ((j : Int) == 0) = false := by rw [beq_eq_false_iff_ne]; omega
                have R3 := Lib.hid (R3.out hj0)
                have R4 := Lib.hid (R4.out hj0)
                clear R1 R2 hj0
                by_cases han : a < 0
                · have HR := Lib.hid (HNO.out (R3.out (.inl han)) wr (bnext hbB hbr hbB.size))
                  clear R3 R4 HNO HYES
                  go_wp2_with fail
                  refine (hNA wr).mono ?_
                  rintro e w9 ⟨rfl, rfl⟩
                  clear hNA
                  go_wp2_with fail
                  refine (hNB wr).mono ?_
                  rintro e w9 ⟨rfl, rfl⟩
                  clear hNB
                  go_wp2
                  exact HR.out
                · cases hBe : (x.drop (j + 1)).isEmpty with
                  | true =>
                    have hBx : x.drop (j + 1) = [] := List.isEmpty_iff.1 hBe
                    have hbm : b = -1 := hBN.out hBx
                    have HS2 := Lib.hid (HYES.out _ (R4.out (by omega) (by simp [hBx])))
                    rw [if_pos (.inl (by omega))] at HS2
                    clear R3 R4 HNO HYES hBN hBx
                    subst hbm
                    by_cases has : a < size
                    · go_wp2_with fail
                      refine (hNA wr).mono ?_
                      rintro e w9 ⟨rfl, rfl⟩
                      clear hNA
                      go_wp2_with fail
                      refine (hNB wr).mono ?_
                      rintro e w9 ⟨rfl, rfl⟩
                      clear hNB
                      go_wp2_with
                        (at_builtin; go_loud (
                         refine wp_appP rfl (.tmp 119) (.tmp 123) rfl w2.heap.size (.slice A5 n5 c5) q rfl ?ho _ 1 1 [(a, size - 1)] rfl ?hr ?hby ?hbase ?_
                         case ho => exact hown.step (alloc_below _ _)
                         case hr => exact one_rdP' _ _ _ _ _ (by simp)
                         case hby => omega
                         case hbase => simp; omega
                         intro A6 n6 c6 w6 hown6 hb6 hn6))
                      go_roundw
                      case rel => exact ⟨k + 1, A6, n6, c6, q ++ [(a, size - 1)], by omega, by go_num, rfl, hown6, Lib.hid (by rw [HTK.out, HS2.out]; unfold Rg.addP; rw [if_pos (show Rg.fullB (_, _) = true from decide_eq_true (by show (_ : Int) ≤ _; omega))]), by simp; omega, (hbr.trans ((alloc_below wr _).mono hszr)).trans hb6⟩
                      case measure => simp [intOf]; omega
                    · go_wp2_with fail
                      refine (hNA wr).mono ?_
                      rintro e w9 ⟨rfl, rfl⟩
                      clear hNA
                      go_wp2_with fail
                      refine (hNB wr).mono ?_
                      rintro e w9 ⟨rfl, rfl⟩
                      clear hNB
                      go_wp2
                      all_goals
                        go_roundw
                        case rel => exact ⟨k + 1, A5, n5, c5, q, by omega, by go_num, rfl, hown, Lib.hid (by rw [HTK.out, HS2.out]; unfold Rg.addP; rw [if_neg (by first | (simp [Rg.fullB]; done) | (simp [Rg.fullB]; omega)), List.append_nil]), by omega, hbr⟩
                        case measure => simp [intOf]; omega
                  | false =>
                    have hBx : x.drop (j + 1) ≠ [] := fun h => by rw [h] at hBe; cases hBe
                    by_cases hba : b < a
                    · have HR := Lib.hid (HNO.out (R3.out (.inr ⟨hBx, hba⟩)) wr (bnext hbB hbr hbB.size))
                      clear R3 R4 HNO HYES hBx hBN
                      go_wp2_with fail
                      refine (hNA wr).mono ?_
                      rintro e w9 ⟨rfl, rfl⟩
                      clear hNA
                      go_wp2_with fail
                      refine (hNB wr).mono ?_
                      rintro e w9 ⟨rfl, rfl⟩
                      clear hNB
                      go_wp2
                      exact HR.out
                    · have HS2 := Lib.hid (HYES.out _ (R4.out (by omega) (fun h => hba h.2)))
                      clear R3 R4 HNO HYES hBx hBN
                      by_cases hbs : size - 1 < b
                      · rw [if_pos (.inr hbs)] at HS2
                        by_cases has : a < size
                        · go_wp2_with fail
                          refine (hNA wr).mono ?_
                          rintro e w9 ⟨rfl, rfl⟩
                          clear hNA
                          go_wp2_with fail
                          refine (hNB wr).mono ?_
                          rintro e w9 ⟨rfl, rfl⟩
                          clear hNB
                          go_wp2_with
                            (at_builtin; go_loud (
                             refine wp_appP rfl (.tmp 119) (.tmp 123) rfl w2.heap.size (.slice A5 n5 c5) q rfl ?ho _ 1 1 [(a, size - 1)] rfl ?hr ?hby ?hbase ?_
                             case ho => exact hown.step (alloc_below _ _)
                             case hr => exact one_rdP' _ _ _ _ _ (by simp)
                             case hby => omega
                             case hbase => simp; omega
                             intro A6 n6 c6 w6 hown6 hb6 hn6))
                          go_roundw
                          case rel => exact ⟨k + 1, A6, n6, c6, q ++ [(a, size - 1)], by omega, by go_num, rfl, hown6, Lib.hid (by rw [HTK.out, HS2.out]; unfold Rg.addP; rw [if_pos (show Rg.fullB (_, _) = true from decide_eq_true (by show (_ : Int) ≤ _; omega))]), by simp; omega, (hbr.trans ((alloc_below wr _).mono hszr)).trans hb6⟩
                          case measure => simp [intOf]; omega
                        · go_wp2_with fail
                          refine (hNA wr).mono ?_
                          rintro e w9 ⟨rfl, rfl⟩
                          clear hNA
                          go_wp2_with fail
                          refine (hNB wr).mono ?_
                          rintro e w9 ⟨rfl, rfl⟩
                          clear hNB
                          go_wp2
                          all_goals
                            go_roundw
                            case rel => exact ⟨k + 1, A5, n5, c5, q, by omega, by go_num, rfl, hown, Lib.hid (by rw [HTK.out, HS2.out]; unfold Rg.addP; rw [if_neg (by first | (simp [Rg.fullB]; done) | (simp [Rg.fullB]; omega)), List.append_nil]), by omega, hbr⟩
                            case measure => simp [intOf]; omega
                      · rw [if_neg (by omega)] at HS2
                        by_cases has : a < size
                        · go_wp2_with fail
                          refine (hNA wr).mono ?_
                          rintro e w9 ⟨rfl, rfl⟩
                          clear hNA
                          go_wp2_with fail
                          refine (hNB wr).mono ?_
                          rintro e w9 ⟨rfl, rfl⟩
                          clear hNB
                          go_wp2_with
                            (at_builtin; go_loud (
                             refine wp_appP rfl (.tmp 119) (.tmp 123) rfl w2.heap.size (.slice A5 n5 c5) q rfl ?ho _ 1 1 [(a, b)] rfl ?hr ?hby ?hbase ?_
                             case ho => exact hown.step (alloc_below _ _)
                             case hr => exact one_rdP' _ _ _ _ _ (by simp)
                             case hby => omega
                             case hbase => simp; omega
                             intro A6 n6 c6 w6 hown6 hb6 hn6))
                          go_roundw
                          case rel => exact ⟨k + 1, A6, n6, c6, q ++ [(a, b)], by omega, by go_num, rfl, hown6, Lib.hid (by rw [HTK.out, HS2.out]; unfold Rg.addP; rw [if_pos (show Rg.fullB (_, _) = true from decide_eq_true (by show (_ : Int) ≤ _; omega))]), by simp; omega, (hbr.trans ((alloc_below wr _).mono hszr)).trans hb6⟩
                          case measure => simp [intOf]; omega
                        · go_wp2_with fail
                          refine (hNA wr).mono ?_
                          rintro e w9 ⟨rfl, rfl⟩
                          clear hNA
                          go_wp2_with fail
                          refine (hNB wr).mono ?_
                          rintro e w9 ⟨rfl, rfl⟩
                          clear hNB
                          go_wp2
                          all_goals
                            go_roundw
                            case rel => exact ⟨k + 1, A5, n5, c5, q, by omega, by go_num, rfl, hown, Lib.hid (by rw [HTK.out, HS2.out]; unfold Rg.addP; rw [if_neg (by first | (simp [Rg.fullB]; done) | (simp [Rg.fullB]; omega)), List.append_nil]), by omega, hbr⟩
                            case measure => simp [intOf]; omega
            · have HC : Hid (∀ b ∈ x.take (j + 1), b ≠ 45) := Lib.hid fun b hm => by
                rw [take_snoc? (List.getElem?_eq_getElem hlj), List.mem_append, List.mem_singleton] at hm
                rcases hm with hm | rfl
                · exact HA.out b hm
                · exact hb
              have hb2 : ((x[j].toNat : Int) != 45) = true := by
                rw [bne_iff_ne]; intro h'; apply hb; apply UInt8.toNat_inj.1; simpa using Int.ofNat.inj h'
              clear hb HREF HFREE HNO HYES HO HOK
              go_wp2
              go_roundw
              case rel => exact ⟨j + 1, by omega, by go_num, HC, by trivial⟩
              case measure => simp [intOf]; omega
          · obtain rfl : j = x.length := by omega
            have HR := Lib.hid (HNO.out (HFREE.out HA.out) wr (bnext hbB hbr hbB.size))
            clear HREF HFREE HNO HYES HO HOK HA
            go_wp2
            exact HR.out
      · obtain rfl : k = n := by omega
        have HQ2 : Hid (Rg.spansL size L = some q) := Lib.hid (by have := HQ.out; rwa [HT.out] at this)
        have hn5 := hown.rd.1
        by_cases hq0 : n5 = 0
        · subst hq0
          have hq : q = [] := List.eq_nil_of_length_eq_zero hn5
          have HR := Lib.hid (HO.out wr 191 (HG2.out.2.1 (by rw [HQ2.out, hq])) (bnext hbB hbr hbB.size))
          clear HO HOK HG2 HQ HQ2
          go_wp2
          exact HR.out
        · have HR := Lib.hid (HOK.out wr A5 n5 c5 q (HG2.out.2.2 q HQ2.out (by intro h; rw [h] at hn5; exact hq0 hn5.symm)) (hown.mono hbB.size) (bnext hbB hbr hbB.size))
          clear HO HOK HG2 HQ HQ2
          go_wp2
          exact HR.out
end Go.Proofs.YtcaekfebnhedpaaGreatDoor
