/- The reference's Parse: it answers parseL. Conditions: the text's length at most 2^30. -/
import Derived.Test.YtdeaoagdjnnppaaGreatDoorUrG
import Derived.Test.YtdeaoagdjnnppaaGreatDoorUrH
import Derived.Test.YtdeaoagdjnnppaaGreatDoorUrE
import Derived.Test.YtdeaoagdjnnppaaGreatDoorDet
set_option linter.unusedVariables false
set_option linter.unusedSimpArgs false
namespace Go.Proofs.YtdeaoagdjnnppaaGreatDoor
open Go.RowKit

set_option maxRecDepth 100000
theorem okR_bad {c : UInt8} (h : Ur.okC c = false) : c.toNat < 33 ∨ 126 < c.toNat ∨ c = 35 := by rcases okC_bad h with h | h | h; exact .inl (by omega); exact .inr (.inl (by omega)); exact .inr (.inr h)
theorem colonY {s : List UInt8} (h : Ur.hasC 58 s = true) : ∃ k : Nat, colonI s = k ∧ k < s.length ∧ s.take k = Ur.cutA 58 s ∧ s.drop (k + 1) = Ur.cutB 58 s := by
  refine ⟨(Ur.cutA 58 s).length, by unfold colonI; rw [if_pos h], ?_, ?_, ?_⟩
  · have := congrArg List.length (Ur.cut_join h); simp at this; omega
  · conv => lhs; arg 2; rw [Ur.cut_join h]
    simp
  · conv => lhs; arg 2; rw [Ur.cut_join h]
    rw [List.drop_append, List.drop_eq_nil_of_le (by omega)]; simp
theorem colonN {s : List UInt8} (h : Ur.hasC 58 s = false) : colonI s = -1 := by unfold colonI; rw [h]; rfl
theorem end_of {r : List UInt8} {k : Nat} (hk : k ≤ r.length) (hs : ∀ j, j < k → ∀ b, r[j]? = some b → Ur.stop b = false) (he : k = r.length ∨ ∃ b, r[k]? = some b ∧ Ur.stop b = true) : Ur.nameS r = r.take k ∧ Ur.restS r = r.drop k := by
  have h1 : ∀ b ∈ r.take k, Ur.stop b = false := fun b hb => by
    obtain ⟨j, hj, rfl⟩ := List.getElem_of_mem hb
    simp only [List.length_take] at hj
    exact hs j (by omega) _ (by rw [List.getElem_take, List.getElem?_eq_getElem (by omega)])
  have h2 : r.drop k = [] ∨ ∃ c t, r.drop k = c :: t ∧ Ur.stop c = true := by
    rcases he with rfl | ⟨b, hb, hst⟩
    · exact .inl (List.drop_eq_nil_of_le (Nat.le_refl _))
    · obtain ⟨hlt, rfl⟩ := List.getElem?_eq_some_iff.1 hb
      exact .inr ⟨_, _, List.drop_eq_getElem_cons hlt, hst⟩
  have := Ur.name_of h1 h2
  rwa [List.take_append_drop] at this
theorem cut_at {c : UInt8} {r : List UInt8} {k : Nat} (hk : k ≤ r.length) (hs : ∀ j, j < k → r[j]? ≠ some c) (he : k = r.length ∨ r[k]? = some c) : Ur.cutA c r = r.take k ∧ Ur.cutR c r = r.drop k := by
  have h1 : ∀ b ∈ r.take k, b ≠ c := fun b hb e => by
    subst e
    obtain ⟨j, hj, he⟩ := List.getElem_of_mem hb
    simp only [List.length_take] at hj
    rw [List.getElem_take] at he
    exact hs j (by omega) (by rw [List.getElem?_eq_getElem (by omega), he])
  rcases he with rfl | he
  · rw [List.take_length] at h1 ⊢
    rw [List.drop_eq_nil_of_le (Nat.le_refl _)]
    exact Ur.cut_none r h1
  · obtain ⟨hlt, e⟩ := List.getElem?_eq_some_iff.1 he
    have e2 : r.drop k = c :: r.drop (k + 1) := by rw [List.drop_eq_getElem_cons hlt, e]
    have := Ur.cut_of (r.drop (k + 1)) (r.take k) h1
    rw [← e2, List.take_append_drop] at this
    exact this
set_option maxHeartbeats 8000000 in
theorem rparse_any (s : List UInt8) (w : World) (hs : s.length ≤ 1073741824) :
    Calls Tryz.prog 7 #[.string (bs s)] w fun e w' => e = .returned (resV (Ur.parseL s)) ∧ Below w.heap.size w w' := by
  have HL : Hid (Ur.parseL s = if 4096 < s.length then (Ur.noT, 101) else if s.all Ur.okC = false then (Ur.noT, 30) else if fold (s.take 7) ≠ Ur.sch then (Ur.noT, 31) else Ur.behind (Ur.cutA 58 (Ur.nameS (s.drop 7))) (Ur.cutB 58 (Ur.nameS (s.drop 7))) (Ur.restS (s.drop 7))) := Lib.hid rfl
  have hal := alloc_below w (.cells #[.string ⟨#[]⟩, .int .i64 0, .string ⟨#[]⟩] 24)
  have hnew := heap_alloc_new w (.cells #[.string ⟨#[]⟩, .int .i64 0, .string ⟨#[]⟩] 24)
  obtain ⟨c0, c1, c2, f0, f1, f2⟩ := row_facts3 hnew
  generalize Ur.parseL s = R at *
  by_cases hlen : 4096 < s.length
  · have HR : Hid (R = (Ur.noT, 101)) := Lib.hid (by rw [HL.out, if_pos hlen])
    go_enter Tryz.func7, Tryz.ntmps7
    go_wp2
    refine bodyPost_ret (v := resV (Ur.noT, 101)) (by simp [results, Tryz.results7, go_sem, c0, c1, c2, Ur.tgtV, Ur.noT, bs, resV]) rfl ⟨by rw [HR.out], by first | exact hal | exact ((hal.setCell (by simp) _).setCell (by simp) _).setCell (by simp) _⟩
  rw [if_neg hlen] at HL
  have HBad : Hid (s.all Ur.okC = false → R = (Ur.noT, 30)) := Lib.hid fun h => by rw [HL.out, if_pos h]
  go_enter Tryz.func7, Tryz.ntmps7
  go_upto_region 4 with fail
  generalize hw1 : w.alloc (.cells #[.string ⟨#[]⟩, .int .i64 0, .string ⟨#[]⟩] 24) = w1 at *
  clear hw1
  go_loopg [4] s.length (fun q i wr => ∃ k : Nat, k ≤ s.length ∧ q + k = s.length ∧ i = .int .i64 k ∧ Hid ((s.take k).all Ur.okC = true) ∧ wr = w1)
  case atStart => exact ⟨0, by omega, by omega, rfl, Lib.hid (by simp), rfl⟩
  case round =>
    obtain ⟨k, hk, hr, rfl, HA, rfl⟩ := hrel
    obtain ⟨w1, rfl⟩ : ∃ w1, w1 = wr := ⟨_, rfl⟩
    by_cases hlt : k < s.length
    · have hc255 := s[k].toNat_lt
      cases ho : Ur.okC s[k] with
      | true =>
        obtain ⟨g1, g2, g3⟩ := okC_good ho
        have g1' : ¬ s[k].toNat < 33 := by omega
        have g2' : ¬ 126 < s[k].toNat := by omega
        have e35 := u8nek g3 35 rfl
        have HAN : Hid ((s.take (k + 1)).all Ur.okC = true) := Lib.hid (by rw [all_snoc _ s k hlt, HA.out, ho]; rfl)
        clear ho g1 g2 g3 HA HL HBad
        go_wp2
        go_roundg (s.length - (k + 1))
        case measure => omega
        case rel => exact ⟨k + 1, by omega, by omega, by go_num, HAN, rfl⟩
      | false =>
        have HR := Lib.hid (HBad.out (all_stop Ur.okC s k hlt ho))
        have hb := okR_bad ho
        clear ho HA HL HBad
        by_cases g1 : s[k].toNat < 33
        · go_wp2
          refine bodyPost_ret (v := resV (Ur.noT, 30)) (by simp [results, Tryz.results7, go_sem, c0, c1, c2, Ur.tgtV, Ur.noT, bs, resV]) rfl ⟨by rw [HR.out], by first | exact hal | exact ((hal.setCell (by simp) _).setCell (by simp) _).setCell (by simp) _⟩
        · by_cases g2 : 126 < s[k].toNat
          · go_wp2
            refine bodyPost_ret (v := resV (Ur.noT, 30)) (by simp [results, Tryz.results7, go_sem, c0, c1, c2, Ur.tgtV, Ur.noT, bs, resV]) rfl ⟨by rw [HR.out], by first | exact hal | exact ((hal.setCell (by simp) _).setCell (by simp) _).setCell (by simp) _⟩
          · have g3 : s[k] = 35 := by rcases hb with h | h | h; omega; omega; exact h
            have e35 := u8eqk g3 35 rfl
            clear g3 hb
            go_wp2
            refine bodyPost_ret (v := resV (Ur.noT, 30)) (by simp [results, Tryz.results7, go_sem, c0, c1, c2, Ur.tgtV, Ur.noT, bs, resV]) rfl ⟨by rw [HR.out], by first | exact hal | exact ((hal.setCell (by simp) _).setCell (by simp) _).setCell (by simp) _⟩
    · obtain rfl : k = s.length := by omega
      have hall := all_full Ur.okC s HA.out
      rw [if_neg (by rw [hall]; simp)] at HL
      clear HA HBad hall
      by_cases h7 : s.length < 7
      · have HR : Hid (R = (Ur.noT, 31)) := Lib.hid (by
          rw [HL.out, if_pos]
          intro h
          have := congrArg List.length h
          rw [fold_length] at this
          simp [Ur.sch] at this; omega)
        clear HL
        go_wp2
        refine bodyPost_ret (v := resV (Ur.noT, 31)) (by simp [results, Tryz.results7, go_sem, c0, c1, c2, Ur.tgtV, Ur.noT, bs, resV]) rfl ⟨by rw [HR.out], by first | exact hal | exact ((hal.setCell (by simp) _).setCell (by simp) _).setCell (by simp) _⟩
      · have h7i : (7 : Int) ≤ (s.length : Int) := by omega
        have hF := lower_any (s.take 7) w1 (by simp; omega)
        generalize fold (s.take 7) = F7 at *
        by_cases hsc : F7 = [104, 116, 116, 112, 58, 47, 47]
        · subst hsc
          rw [if_neg (show ¬ ([104, 116, 116, 112, 58, 47, 47] : List UInt8) ≠ Ur.sch from fun h => h rfl)] at HL
          go_wp2_with fail
          refine hF.mono ?_
          rintro e w2 ⟨rfl, hb2⟩
          have hr2 := row_keep hnew hb2
          have hB2 := bnext hal hb2 hal.size
          clear hF hb2 hnew hal c0 c1 c2 f0 f1 f2 hlt hk hr
          go_upto_block 2 with fail
          go_cut [5] from 50 to 67 (fun v wx => ∃ k : Nat, v = .int .i64 k ∧ 7 ≤ k ∧ k ≤ s.length ∧ Hid (Ur.nameS (s.drop 7) = (s.drop 7).take (k - 7) ∧ Ur.restS (s.drop 7) = s.drop k) ∧ wx = w2)
          case first =>
            clear HL
            go_wp2_with fail
            go_loopg [5] s.length (fun q i wr => ∃ k : Nat, 7 ≤ k ∧ k ≤ s.length ∧ q + k = s.length + 7 ∧ i = .int .i64 k ∧ Hid (∀ j, j < k - 7 → ∀ b, (s.drop 7)[j]? = some b → Ur.stop b = false) ∧ wr = w2)
            case atStart => exact ⟨7, by omega, by omega, by omega, rfl, Lib.hid (fun j hj => absurd hj (by omega)), rfl⟩
            case round =>
              obtain ⟨k, hk7, hk, hq, rfl, HA, rfl⟩ := hrel
              obtain ⟨w2, rfl⟩ : ∃ w2, w2 = wr := ⟨_, rfl⟩
              have HEX : Hid ((k = s.length ∨ ∃ h : k < s.length, Ur.stop s[k] = true) → Ur.nameS (s.drop 7) = (s.drop 7).take (k - 7) ∧ Ur.restS (s.drop 7) = s.drop k) := Lib.hid fun hend => by
                have hE := end_of (r := s.drop 7) (k := k - 7) (by simp; omega) HA.out (by
                  rcases hend with rfl | ⟨hlt, hst⟩
                  · exact .inl (by simp)
                  · exact .inr ⟨s[k], by rw [List.getElem?_drop, show 7 + (k - 7) = k by omega, List.getElem?_eq_getElem hlt], hst⟩)
                refine ⟨hE.1, ?_⟩
                rw [hE.2, List.drop_drop, show 7 + (k - 7) = k by omega]
              by_cases hlt : k < s.length
              · by_cases h47 : s[k] = 47
                · have n47 : ((s[k].toNat : Int) != 47) = false := by rw [bne, u8eqk h47 47 rfl]; rfl
                  have HX := Lib.hid (HEX.out (.inr ⟨hlt, by rw [h47]; rfl⟩))
                  clear h47 HA HEX
                  go_wp2
                  go_meet
                  case rel => exact ⟨k, rfl, hk7, hk, HX, rfl⟩
                · have n47 : ((s[k].toNat : Int) != 47) = true := by rw [bne, u8nek h47 47 rfl]; rfl
                  by_cases h63 : s[k] = 63
                  · have n63 : ((s[k].toNat : Int) != 63) = false := by rw [bne, u8eqk h63 63 rfl]; rfl
                    have HX := Lib.hid (HEX.out (.inr ⟨hlt, by rw [h63]; rfl⟩))
                    clear h47 h63 HA HEX
                    go_wp2
                    go_meet
                    case rel => exact ⟨k, rfl, hk7, hk, HX, rfl⟩
                  · have n63 : ((s[k].toNat : Int) != 63) = true := by rw [bne, u8nek h63 63 rfl]; rfl
                    have HAN : Hid (∀ j, j < k + 1 - 7 → ∀ b, (s.drop 7)[j]? = some b → Ur.stop b = false) := Lib.hid fun j hj b hb => by
                      rcases Nat.lt_or_ge j (k - 7) with h | h
                      · exact HA.out j h b hb
                      · obtain rfl : j = k - 7 := by omega
                        rw [List.getElem?_drop, show 7 + (k - 7) = k by omega, List.getElem?_eq_getElem hlt] at hb
                        cases hb
                        unfold Ur.stop
                        simp [h47, h63]
                    clear h47 h63 HA HEX
                    go_wp2
                    go_roundg (s.length + 7 - (k + 1))
                    case measure => omega
                    case rel => exact ⟨k + 1, by omega, by omega, by omega, by go_num, HAN, rfl⟩
              · have HX := Lib.hid (HEX.out (.inl (by omega)))
                clear HA HEX
                go_wp2
                go_meet
                case rel => exact ⟨k, rfl, hk7, hk, HX, rfl⟩
          case rest =>
            obtain ⟨k, rfl, hk7, hk, HE, rfl⟩ := hcut
            obtain ⟨w2, rfl⟩ : ∃ w2, w2 = wc := ⟨_, rfl⟩
            rw [HE.out.1, HE.out.2] at HL
            have hNl : (List.take (k - 7) (List.drop 7 s)).length ≤ 4096 := by simp; omega
            have hk7i : (7 : Int) ≤ (k : Int) := by omega
            have hki : (k : Int) ≤ (s.length : Int) := by omega
            have hQl : (s.drop k).length ≤ 4096 := by simp; omega
            clear HE
            go_upto_region 14 with fail
            generalize List.take (k - 7) (List.drop 7 s) = N at *
            have hK := colon_any N w2 (by omega)
            have hY := fun h => colonY (s := N) h
            have hNn := fun h => colonN (s := N) h
            have hcA := fun h => Ur.cutA_no (c := 58) (s := N) h
            have hcB := fun h => Ur.cutB_no (c := 58) (s := N) h
            have hlA := Ur.cutA_le 58 N
            have hlB := Ur.cutB_le 58 N
            generalize Ur.cutA 58 N = A at *
            generalize Ur.cutB 58 N = B at *
            generalize Ur.hasC 58 N = H at *
            generalize colonI N = K at *
            have HY := Lib.hid hY
            have HNn := Lib.hid hNn
            have HcA := Lib.hid hcA
            have HcB := Lib.hid hcB
            clear hY hNn hcA hcB
            go_wp2_with fail
            refine hK.mono ?_
            rintro e w3 ⟨rfl, rfl⟩
            clear hK
            go_upto_if 75 with fail
            go_cut [8] (fun v wx => v = .string (bs A) ∧ wx = w2)
            case first =>
              clear HL
              cases H with
              | true =>
                obtain ⟨j, rfl, hj1, hj2, hj3⟩ := HY.out rfl
                have hji : (j : Int) ≤ (N.length : Int) := by omega
                have HJ := Lib.hid hj2
                clear HY HNn HcA HcB hj2 hj3
                go_wp2
                go_meet
                case rel => exact ⟨by rw [HJ.out], rfl⟩
              | false =>
                obtain rfl := HNn.out rfl
                have HJ := Lib.hid (HcA.out rfl)
                clear HY HNn HcA HcB
                go_wp2
                go_meet
                case rel => exact ⟨by rw [HJ.out], rfl⟩
            case rest =>
              obtain ⟨rfl, rfl⟩ := hcut
              obtain ⟨w2, rfl⟩ : ∃ w2, w2 = wc := ⟨_, rfl⟩
              have hH := rhost_any A
              unfold Ur.behind at HL
              cases hh : Ur.hostB A with
              | false =>
                have HR : Hid (R = (Ur.noT, 32)) := Lib.hid (by rw [HL.out, if_pos hh])
                rw [hh] at hH
                obtain ⟨c0, c1, c2, f0, f1, f2⟩ := row_facts3 hr2
                clear HL hh HY HNn HcA HcB
                go_wp2_with fail
                refine (hH _ (by omega)).mono ?_
                rintro e w5 ⟨rfl, rfl⟩
                clear hH
                go_wp2
                refine bodyPost_ret (v := resV (Ur.noT, 32)) (by simp [results, Tryz.results7, go_sem, c0, c1, c2, Ur.tgtV, Ur.noT, bs, resV]) rfl ⟨by rw [HR.out], by first | exact hB2 | exact ((hB2.setCell (by simp) _).setCell (by simp) _).setCell (by simp) _⟩
              | true =>
                rw [hh] at hH
                rw [if_neg (by rw [hh]; simp)] at HL
                clear hh
                go_wp2_with fail
                refine (hH _ (by omega)).mono ?_
                rintro e w5 ⟨rfl, rfl⟩
                clear hH
                go_upto_region 21 with fail
                go_cut [91] (fun v wx => ∃ bb : Bool, v = .bool bb ∧ Hid ((bb = true → H = true ∧ B ≠ []) ∧ (bb = false → B = [])) ∧ wx = w2)
                case first =>
                  clear HL HcA
                  cases H with
                  | true =>
                    obtain ⟨j, rfl, hj1, hj2, hj3⟩ := HY.out rfl
                    have hj0 : (0 : Int) ≤ (j : Int) := by omega
                    by_cases hjl : j + 1 < N.length
                    · have hB0 : Hid (B ≠ []) := Lib.hid (by rw [← hj3]; intro h; have := congrArg List.length h; simp at this; omega)
                      have hlt : (j : Int) < (N.length : Int) - 1 := by omega
                      clear HY HNn HcB hj2 hj3
                      go_wp2
                      go_meet
                      case rel => exact ⟨true, rfl, Lib.hid ⟨fun _ => ⟨by first | rfl | trivial, hB0.out⟩, fun h => by cases h⟩, rfl⟩
                    · have hB0 : Hid (B = []) := Lib.hid (by rw [← hj3]; exact List.drop_eq_nil_of_le (by omega))
                      have hlt : ¬ (j : Int) < (N.length : Int) - 1 := by omega
                      clear HY HNn HcB hj2 hj3
                      go_wp2
                      go_meet
                      case rel => exact ⟨false, rfl, Lib.hid ⟨fun h => (by cases h), fun _ => hB0.out⟩, rfl⟩
                  | false =>
                    obtain rfl := HNn.out rfl
                    have hB0 := Lib.hid (HcB.out rfl)
                    clear HY HNn HcB
                    go_wp2
                    go_meet
                    case rel => exact ⟨false, rfl, Lib.hid ⟨fun h => (by cases h), fun _ => hB0.out⟩, rfl⟩
                case rest =>
                  obtain ⟨bb, rfl, HBB, rfl⟩ := hcut
                  obtain ⟨w2, rfl⟩ : ∃ w2, w2 = wc := ⟨_, rfl⟩
                  go_upto_if 91 with fail
                  go_cut [9] (fun v wx => v = .int .i64 (Ur.portD B) ∧ wx = w2)
                  case first =>
                    clear HL
                    cases bb with
                    | true =>
                      obtain ⟨hHt, hBn⟩ := HBB.out.1 rfl
                      obtain ⟨j, rfl, hj1, hj2, hj3⟩ := HY.out hHt
                      have hPo := rport_any B w2 (by omega)
                      have hPD : Ur.portD B = Ur.portV B := by unfold Ur.portD; rw [if_neg hBn]
                      rw [← hPD] at hPo
                      generalize Ur.portD B = p at *
                      rw [← hj3] at hPo
                      have hj1i : (j : Int) + 1 ≤ (N.length : Int) := by omega
                      clear HY HNn HcA HcB HBB hBn hPD hj2 hj3
                      go_wp2_with fail
                      refine hPo.mono ?_
                      rintro e w5 ⟨rfl, rfl⟩
                      clear hPo
                      go_wp2
                      go_meet
                      case rel => exact ⟨rfl, rfl⟩
                    | false =>
                      have hB0 := HBB.out.2 rfl
                      have h80 : Hid (Ur.portD B = 80) := Lib.hid (by rw [hB0]; rfl)
                      clear HY HNn HcA HcB HBB hB0
                      go_wp2
                      go_meet
                      case rel => exact ⟨by rw [h80.out], rfl⟩
                  case rest =>
                    obtain ⟨rfl, rfl⟩ := hcut
                    obtain ⟨w2, rfl⟩ : ∃ w2, w2 = wc := ⟨_, rfl⟩
                    clear HY HNn HcA HcB HBB
                    have hB := hB2
                    by_cases hp : Ur.portD B = 0
                    · have HR : Hid (R = (Ur.noT, 33)) := Lib.hid (by rw [HL.out, if_pos hp])
                      obtain ⟨c0, c1, c2, f0, f1, f2⟩ := row_facts3 hr2
                      rw [hp]
                      clear HL hp
                      go_wp2
                      refine bodyPost_ret (v := resV (Ur.noT, 33)) (by simp [results, Tryz.results7, go_sem, c0, c1, c2, Ur.tgtV, Ur.noT, bs, resV]) rfl ⟨by rw [HR.out], by first | exact hB | exact ((hB.setCell (by simp) _).setCell (by simp) _).setCell (by simp) _⟩
                    · rw [if_neg hp] at HL
                      have hpz : (Ur.portD B == 0) = false := by simpa using hp
                      generalize Ur.portD B = p at *
                      have hD := decoded_any (s.drop k) w2 (by omega)
                      have hDl := fun r' h => dec_len (s.drop k) (r := r') h
                      generalize Ur.dec (s.drop k) = D at *
                      clear hp
                      cases D with
                      | none =>
                        have HR : Hid (R = (Ur.noT, 30)) := Lib.hid HL.out
                        unfold ddV at hD
                        dsimp only at hD
                        clear HL hDl
                        go_wp2_with fail
                        refine hD.mono ?_
                        rintro e w7 ⟨rfl, hb7⟩
                        obtain ⟨c0, c1, c2, f0, f1, f2⟩ := row_facts3 (row_keep hr2 hb7)
                        have hB7 := bnext hB hb7 hB.size
                        clear hD
                        go_wp2
                        refine bodyPost_ret (v := resV (Ur.noT, 30)) (by simp [results, Tryz.results7, go_sem, c0, c1, c2, Ur.tgtV, Ur.noT, bs, resV]) rfl ⟨by rw [HR.out], by first | exact hB7 | exact ((hB7.setCell (by simp) _).setCell (by simp) _).setCell (by simp) _⟩
                      | some q =>
                        have hL2 := HL.out
                        unfold ddV at hD
                        dsimp only at hD hL2
                        have hql : q.length ≤ 4096 := Nat.le_trans (hDl q rfl) hQl
                        have HL2 := Lib.hid hL2
                        clear HL hL2 hDl
                        go_wp2_with fail
                        refine hD.mono ?_
                        rintro e w7 ⟨rfl, hb7⟩
                        have hr7 := row_keep hr2 hb7
                        have hB7 := bnext hB hb7 hB.size
                        clear hD hr2 hB hB2 hb7
                        go_upto_block 4 with fail
                        go_cut [12] from 110 to 121 (fun v wx => ∃ j : Nat, v = .int .i64 j ∧ j ≤ q.length ∧ Hid (Ur.cutA 63 q = q.take j ∧ Ur.cutR 63 q = q.drop j) ∧ wx = w7)
                        case first =>
                          clear HL2
                          go_wp2_with fail
                          go_loopg [12] q.length (fun u i wr => ∃ j : Nat, j ≤ q.length ∧ u + j = q.length ∧ i = .int .i64 j ∧ Hid (∀ t, t < j → q[t]? ≠ some 63) ∧ wr = w7)
                          case atStart => exact ⟨0, by omega, by omega, rfl, Lib.hid (fun t ht => absurd ht (by omega)), rfl⟩
                          case round =>
                            obtain ⟨j, hj, hu, rfl, HA, rfl⟩ := hrel
                            obtain ⟨w7, rfl⟩ : ∃ w7, w7 = wr := ⟨_, rfl⟩
                            by_cases hlt : j < q.length
                            · by_cases h63 : q[j] = 63
                              · have n63 : ((q[j].toNat : Int) != 63) = false := by rw [bne, u8eqk h63 63 rfl]; rfl
                                have HX := Lib.hid (cut_at hj HA.out (.inr (by rw [List.getElem?_eq_getElem hlt, h63])))
                                clear h63 HA
                                go_wp2
                                go_meet
                                case rel => exact ⟨j, rfl, hj, HX, rfl⟩
                              · have n63 : ((q[j].toNat : Int) != 63) = true := by rw [bne, u8nek h63 63 rfl]; rfl
                                have HAN : Hid (∀ t, t < j + 1 → q[t]? ≠ some 63) := Lib.hid fun t ht => by
                                  rcases Nat.lt_or_ge t j with h | h
                                  · exact HA.out t h
                                  · obtain rfl : t = j := by omega
                                    rw [List.getElem?_eq_getElem hlt]
                                    intro e; exact h63 (Option.some.inj e)
                                clear h63 HA
                                go_wp2
                                go_roundg (q.length - (j + 1))
                                case measure => omega
                                case rel => exact ⟨j + 1, by omega, by omega, by go_num, HAN, rfl⟩
                            · have HX := Lib.hid (cut_at hj HA.out (.inl (by omega)))
                              clear HA
                              go_wp2
                              go_meet
                              case rel => exact ⟨j, rfl, hj, HX, rfl⟩
                        case rest =>
                          obtain ⟨j, rfl, hj, HX, rfl⟩ := hcut
                          obtain ⟨w7, rfl⟩ : ∃ w7, w7 = wc := ⟨_, rfl⟩
                          have hl2 := HL2.out
                          rw [HX.out.1, HX.out.2] at hl2
                          have HR := Lib.hid hl2
                          have hji : (j : Int) ≤ (q.length : Int) := by omega
                          have HLo := Lib.hid fun W => lower_any A W (by omega)
                          have HTi := Lib.hid fun W => tidy_any (q.take j) W (by simp; omega)
                          have htl := tidy_len (q.take j)
                          have hjl : (q.take j).length ≤ 4096 := by simp; omega
                          have hdl : (q.drop j).length ≤ 4096 := by simp; omega
                          clear HL2 hl2 HX
                          generalize fold A = FA at *
                          generalize Ur.tidyL (q.take j) = TP at *
                          have hcat : ¬ 9223372036854775807 < TP.length + (q.length - j) := by omega
                          go_upto_region 31 with fail
                          refine wp_region_detN (n := 14) (S := fun L W => Below w.heap.size w W ∧ W.heap[w.heap.size]? = some (.cells (if L.getD 12 false = true then #[.string (bs FA), .int .i64 p, .string (bs (TP ++ q.drop j))] else #[.string ⟨#[]⟩, .int .i64 0, .string ⟨#[]⟩]) 24 (0, 0))) (by kernel_rfl) rfl ⟨hB7.drew, hr7⟩ ?_
                          refine' DetS.takeL (i := 0) (v := _) rfl (by kernel_rfl) (by kernel_rfl) (by kernel_rfl) (YS.pure rfl ?sd31_0 ?rd31_0) ?nd31_0
                          case rd31_0 => intro L W hS;  go_simp; first | rfl | (rw [if_neg (by omega)] <;> rfl) | (rw [if_neg (by simp; omega)] <;> rfl) | (rw [if_neg (by simp)] <;> rfl)
                          case sd31_0 => exact fun L W _ h => by simpa only [getD_set_ne false (show 0 ≠ 12 by decide)] using h
                          simp only [Act.put, List.setIfInBounds_toArray, List.set_cons_zero, List.set_cons_succ]
                          refine' DetS.takeL (i := 1) (v := _) rfl (by kernel_rfl) (by kernel_rfl) (by kernel_rfl) (YS.call (f := _) (args := _) rfl ?rd31_1 ?cd31_1) ?nd31_1
                          case rd31_1 => intro W; go_simp; constructor <;> rfl
                          case cd31_1 =>
                            intro L W hL hS
                            refine (HLo.out W).mono ?_
                            rintro e w9 ⟨rfl, hb9⟩
                            exact ⟨by rfl, bnext hS.1 hb9 hS.1.size, by rw [row_keep hS.2 hb9, getD_set_ne false (show 1 ≠ 12 by decide)]⟩
                          simp only [Act.put, List.setIfInBounds_toArray, List.set_cons_zero, List.set_cons_succ]
                          refine' DetS.takeL (i := 2) (v := _) rfl (by kernel_rfl) (by kernel_rfl) (by kernel_rfl) (YS.pure rfl ?sd31_2 ?rd31_2) ?nd31_2
                          case rd31_2 => intro L W hS;  go_simp; first | rfl | (rw [if_neg (by omega)] <;> rfl) | (rw [if_neg (by simp; omega)] <;> rfl) | (rw [if_neg (by simp)] <;> rfl)
                          case sd31_2 => exact fun L W _ h => by simpa only [getD_set_ne false (show 2 ≠ 12 by decide)] using h
                          simp only [Act.put, List.setIfInBounds_toArray, List.set_cons_zero, List.set_cons_succ]
                          refine' DetS.takeL (i := 3) (v := _) rfl (by kernel_rfl) (by kernel_rfl) (by kernel_rfl) (YS.pure rfl ?sd31_3 ?rd31_3) ?nd31_3
                          case rd31_3 => intro L W hS;  go_simp; first | rfl | (rw [if_neg (by omega)] <;> rfl) | (rw [if_neg (by simp; omega)] <;> rfl) | (rw [if_neg (by simp)] <;> rfl)
                          case sd31_3 => exact fun L W _ h => by simpa only [getD_set_ne false (show 3 ≠ 12 by decide)] using h
                          simp only [Act.put, List.setIfInBounds_toArray, List.set_cons_zero, List.set_cons_succ]
                          refine' DetS.takeL (i := 4) (v := _) rfl (by kernel_rfl) (by kernel_rfl) (by kernel_rfl) (YS.pure rfl ?sd31_4 ?rd31_4) ?nd31_4
                          case rd31_4 => intro L W hS;  go_simp; first | rfl | (rw [if_neg (by omega)] <;> rfl) | (rw [if_neg (by simp; omega)] <;> rfl) | (rw [if_neg (by simp)] <;> rfl)
                          case sd31_4 => exact fun L W _ h => by simpa only [getD_set_ne false (show 4 ≠ 12 by decide)] using h
                          simp only [Act.put, List.setIfInBounds_toArray, List.set_cons_zero, List.set_cons_succ]
                          refine' DetS.takeL (i := 5) (v := _) rfl (by kernel_rfl) (by kernel_rfl) (by kernel_rfl) (YS.pure rfl ?sd31_5 ?rd31_5) ?nd31_5
                          case rd31_5 => intro L W hS;  go_simp; first | rfl | (rw [if_neg (by omega)] <;> rfl) | (rw [if_neg (by simp; omega)] <;> rfl) | (rw [if_neg (by simp)] <;> rfl)
                          case sd31_5 => exact fun L W _ h => by simpa only [getD_set_ne false (show 5 ≠ 12 by decide)] using h
                          simp only [Act.put, List.setIfInBounds_toArray, List.set_cons_zero, List.set_cons_succ]
                          refine' DetS.takeL (i := 6) (v := _) rfl (by kernel_rfl) (by kernel_rfl) (by kernel_rfl) (YS.call (f := _) (args := _) rfl ?rd31_6 ?cd31_6) ?nd31_6
                          case rd31_6 => intro W; go_simp; constructor <;> rfl
                          case cd31_6 =>
                            intro L W hL hS
                            refine (HTi.out W).mono ?_
                            rintro e w9 ⟨rfl, hb9⟩
                            exact ⟨by rfl, bnext hS.1 hb9 hS.1.size, by rw [row_keep hS.2 hb9, getD_set_ne false (show 6 ≠ 12 by decide)]⟩
                          simp only [Act.put, List.setIfInBounds_toArray, List.set_cons_zero, List.set_cons_succ]
                          refine' DetS.takeL (i := 7) (v := _) rfl (by kernel_rfl) (by kernel_rfl) (by kernel_rfl) (YS.pure rfl ?sd31_7 ?rd31_7) ?nd31_7
                          case rd31_7 => intro L W hS;  go_simp; first | rfl | (rw [if_neg (by omega)] <;> rfl) | (rw [if_neg (by simp; omega)] <;> rfl) | (rw [if_neg (by simp)] <;> rfl)
                          case sd31_7 => exact fun L W _ h => by simpa only [getD_set_ne false (show 7 ≠ 12 by decide)] using h
                          simp only [Act.put, List.setIfInBounds_toArray, List.set_cons_zero, List.set_cons_succ]
                          refine' DetS.takeL (i := 8) (v := _) rfl (by kernel_rfl) (by kernel_rfl) (by kernel_rfl) (YS.pure rfl ?sd31_8 ?rd31_8) ?nd31_8
                          case rd31_8 => intro L W hS;  go_simp; first | rfl | (rw [if_neg (by omega)] <;> rfl) | (rw [if_neg (by simp; omega)] <;> rfl) | (rw [if_neg (by simp)] <;> rfl)
                          case sd31_8 => exact fun L W _ h => by simpa only [getD_set_ne false (show 8 ≠ 12 by decide)] using h
                          simp only [Act.put, List.setIfInBounds_toArray, List.set_cons_zero, List.set_cons_succ]
                          refine' DetS.takeL (i := 9) (v := _) rfl (by kernel_rfl) (by kernel_rfl) (by kernel_rfl) (YS.pure rfl ?sd31_9 ?rd31_9) ?nd31_9
                          case rd31_9 => intro L W hS;  go_simp; first | rfl | (rw [if_neg (by omega)] <;> rfl) | (rw [if_neg (by simp; omega)] <;> rfl) | (rw [if_neg (by simp)] <;> rfl)
                          case sd31_9 => exact fun L W _ h => by simpa only [getD_set_ne false (show 9 ≠ 12 by decide)] using h
                          simp only [Act.put, List.setIfInBounds_toArray, List.set_cons_zero, List.set_cons_succ]
                          refine' DetS.takeL (i := 10) (v := _) rfl (by kernel_rfl) (by kernel_rfl) (by kernel_rfl) (YS.pure rfl ?sd31_10 ?rd31_10) ?nd31_10
                          case rd31_10 => intro L W hS;  go_simp; first | rfl | (rw [if_neg (by omega)] <;> rfl) | (rw [if_neg (by simp; omega)] <;> rfl) | (rw [if_neg (by simp)] <;> rfl)
                          case sd31_10 => exact fun L W _ h => by simpa only [getD_set_ne false (show 10 ≠ 12 by decide)] using h
                          simp only [Act.put, List.setIfInBounds_toArray, List.set_cons_zero, List.set_cons_succ]
                          refine' DetS.takeL (i := 11) (v := _) rfl (by kernel_rfl) (by kernel_rfl) (by kernel_rfl) (YS.pure rfl ?sd31_11 ?rd31_11) ?nd31_11
                          case rd31_11 => intro L W hS;  go_simp; first | rfl | (rw [if_neg (by omega)] <;> rfl) | (rw [if_neg (by simp; omega)] <;> rfl) | (rw [if_neg (by simp)] <;> rfl)
                          case sd31_11 => exact fun L W _ h => by simpa only [getD_set_ne false (show 11 ≠ 12 by decide)] using h
                          simp only [Act.put, List.setIfInBounds_toArray, List.set_cons_zero, List.set_cons_succ]
                          refine' DetS.takeL (i := 12) (v := undef) rfl (by kernel_rfl) (by kernel_rfl) (by kernel_rfl) (YS.store (f := _) rfl ?rd31_12) ?nd31_12
                          case rd31_12 =>
                            intro L W hL hS
                            obtain ⟨hB, hq1⟩ := hS
                            rw [getD_un hL] at hq1
                            replace hq1 : W.heap[w.heap.size]? = some (.cells #[.string ⟨#[]⟩, .int .i64 0, .string ⟨#[]⟩] 24 (0, 0)) := hq1
                            obtain ⟨c0, c1, c2, f0, f1, f2⟩ := row_facts3 hq1
                            refine ⟨by go_simp; rfl, ((hB.setCell (p := ⟨w.heap.size, 0, none⟩) (Nat.le_refl _) _).setCell (p := ⟨w.heap.size, 1, none⟩) (Nat.le_refl _) _).setCell (p := ⟨w.heap.size, 2, none⟩) (Nat.le_refl _) _, ?_⟩
                            rw [getD_set_self hL, if_pos rfl, row_set3 hq1]
                          simp only [Act.put, List.setIfInBounds_toArray, List.set_cons_zero, List.set_cons_succ]
                          refine' DetS.takeL (i := 13) (v := _) rfl (by kernel_rfl) (by kernel_rfl) (by kernel_rfl) (YS.pure rfl ?sd31_13 ?rd31_13) ?nd31_13
                          case rd31_13 => intro L W hS;  go_simp; first | rfl | (rw [if_neg (by omega)] <;> rfl) | (rw [if_neg (by simp; omega)] <;> rfl) | (rw [if_neg (by simp)] <;> rfl)
                          case sd31_13 => exact fun L W _ h => by simpa only [getD_set_ne false (show 13 ≠ 12 by decide)] using h
                          simp only [Act.put, List.setIfInBounds_toArray, List.set_cons_zero, List.set_cons_succ]
                          refine DetS.done (by kernel_rfl) (fun W hS => ?_) _
                          obtain ⟨hB9, hr9⟩ := hS
                          replace hr9 : W.heap[w.heap.size]? = some (.cells #[.string (bs FA), .int .i64 p, .string (bs (TP ++ q.drop j))] 24 (0, 0)) := hr9
                          obtain ⟨c0, c1, c2, f0, f1, f2⟩ := row_facts3 hr9
                          go_wp2
                          refine bodyPost_ret (v := resV ((FA, p, TP ++ q.drop j), 0)) (by simp [results, Tryz.results7, go_sem, c0, c1, c2, Ur.tgtV, resV]) rfl ⟨by rw [HR.out], hB9⟩
        · have HR : Hid (R = (Ur.noT, 31)) := Lib.hid (by rw [HL.out, if_pos (show F7 ≠ Ur.sch from hsc)])
          have hsn : (F7 == [104, 116, 116, 112, 58, 47, 47]) = false := by simpa using hsc
          clear HL hsc
          go_wp2_with fail
          refine hF.mono ?_
          rintro e w2 ⟨rfl, hb2⟩
          obtain ⟨c0, c1, c2, f0, f1, f2⟩ := row_facts3 (row_keep hnew hb2)
          have hB2 := bnext hal hb2 hal.size
          clear hF
          go_wp2
          refine bodyPost_ret (v := resV (Ur.noT, 31)) (by simp [results, Tryz.results7, go_sem, c0, c1, c2, Ur.tgtV, Ur.noT, bs, resV]) rfl ⟨by rw [HR.out], by first | exact hB2 | exact ((hB2.setCell (by simp) _).setCell (by simp) _).setCell (by simp) _⟩
end Go.Proofs.YtdeaoagdjnnppaaGreatDoor
