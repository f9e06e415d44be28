/- Parse, the program's: it answers parseL. Conditions: the text's length at most 2^30; the library's variables MaxLen and ErrSyntax. -/
import Derived.Test.YtdeaoagdjnnppaaGreatDoorUrC
import Derived.Test.YtdeaoagdjnnppaaGreatDoorUrD
import Derived.Deep.CutBlock
set_option linter.unusedVariables false
set_option linter.unusedSimpArgs false
namespace Go.Proofs.YtdeaoagdjnnppaaGreatDoor
open Go.RowKit

set_option maxRecDepth 100000
theorem dec_len : ∀ (s : List UInt8) {r : List UInt8}, Ur.dec s = some r → r.length ≤ s.length
  | [], r, h => by cases h; simp
  | [c], r, h => by
    by_cases hc : c = 37
    · subst hc; cases h
    · rw [Ur.dec_plain [] hc] at h; cases h; simp
  | [c, a], r, h => by
    by_cases hc : c = 37
    · subst hc; cases h
    · rw [Ur.dec_plain [a] hc] at h
      cases hd : Ur.dec [a] with
      | none => rw [hd] at h; cases h
      | some v => rw [hd] at h; cases h; have := dec_len [a] hd; simp at this ⊢; omega
  | c :: a :: b :: u, r, h => by
    by_cases hc : c = 37
    · subst hc
      cases ha : Ur.hexv a with
      | none => rw [Ur.dec_bad u (.inl ha)] at h; cases h
      | some x =>
        cases hb : Ur.hexv b with
        | none => rw [Ur.dec_bad u (.inr hb)] at h; cases h
        | some y =>
          rw [Ur.dec_code u ha hb] at h
          cases hd : Ur.dec u with
          | none => rw [hd] at h; cases h
          | some v =>
            rw [hd] at h
            simp only [Option.map_some, Option.some.injEq] at h
            subst h
            have := dec_len u hd
            unfold Ur.code
            split <;> simp <;> omega
    · rw [Ur.dec_plain (a :: b :: u) hc] at h
      cases hd : Ur.dec (a :: b :: u) with
      | none => rw [hd] at h; cases h
      | some v => rw [hd] at h; cases h; have := dec_len (a :: b :: u) hd; simp at this ⊢; omega
theorem tidy_len (p : List UInt8) : (Ur.tidyL p).length ≤ p.length + 1 := by
  cases p with
  | nil => simp [Ur.tidyL]
  | cons b p =>
    have := out_flat_len p
    show (Ur.flatL (Ur.outL p)).length ≤ _
    simp only [List.length_cons]; omega
theorem okC_bad {c : UInt8} (h : Ur.okC c = false) : c.toNat ≤ 32 ∨ 127 ≤ c.toNat ∨ c = 35 := by
  unfold Ur.okC at h
  simp only [Bool.and_eq_false_iff, decide_eq_false_iff_not, Bool.not_eq_false', beq_iff_eq] at h
  rcases h with h | h | h
  · omega
  · omega
  · exact .inr (.inr h)
theorem okC_good {c : UInt8} (h : Ur.okC c = true) : ¬ c.toNat ≤ 32 ∧ ¬ 127 ≤ c.toNat ∧ ¬ c = 35 := by
  unfold Ur.okC at h
  simp only [Bool.and_eq_true, decide_eq_true_eq, Bool.not_eq_true', beq_eq_false_iff_ne] at h
  exact ⟨by omega, by omega, h.2.2⟩
theorem any_any (s : List UInt8) (w : World) (hs : s.length ≤ 1073741824) (ho : ∀ b ∈ s, Ur.okC b = true) :
    Calls Tryz.prog 12 #[.string (bs s), .string ⟨#[47, 63]⟩] w fun e w' => e = .returned (.int .i64 (Lib.indexAny s [47, 63])) ∧ Below w.heap.size w w' :=
  Tryz.strings_IndexAny_laid (bs s) ⟨#[47, 63]⟩ w (by simp; omega) (by decide) (fun j b hj => by
    have := okC_good (ho b (List.mem_of_getElem? hj))
    omega) (fun j b hj => by
    have hm : b ∈ ([47, 63] : List UInt8) := List.mem_of_getElem? hj
    simp at hm
    rcases hm with rfl | rfl <;> decide)
theorem row_set1 {w : World} {B : Nat} {t : TypeId} {v0 v1 v2 u : Value} (h : w.heap[B]? = some (.cells #[v0, v1, v2] t (0, 0))) :
    (w.setCell ⟨B, 1, none⟩ u).heap[B]? = some (.cells #[v0, u, v2] t (0, 0)) ∧ (w.setCell ⟨B, 2, none⟩ u).heap[B]? = some (.cells #[v0, v1, u] t (0, 0)) := by
  constructor <;> simp [World.setCell, Array.getElem?_modify, h]
theorem row_other {w : World} {B C k : Nat} {o : Obj} {u : Value} (h : w.heap[B]? = some o) (hne : C ≠ B) : (w.setCell ⟨C, k, none⟩ u).heap[B]? = some o := by
  rw [← h]; exact Below.heap_setCell _ _ _ _ (fun e => hne (by simpa using e.symm))
set_option maxHeartbeats 8000000 in
theorem parse_any (s : List UInt8) (w : World) (hM : MaxL w) (hE : ErrS w) (hs : s.length ≤ 1073741824) :
    Calls Tryz.prog 6 #[.string (bs s)] w fun e w' => e = .returned (resV (Ur.parseL s)) ∧ Below w.heap.size w w' := by
  have HL : Hid (Ur.parseL s = if 4096 < s.length then (Ur.noT, 101) else if s.all Ur.okC = false then (Ur.noT, 30) else if fold (s.take 7) ≠ Ur.sch then (Ur.noT, 31) else Ur.behind (Ur.cutA 58 (Ur.nameS (s.drop 7))) (Ur.cutB 58 (Ur.nameS (s.drop 7))) (Ur.restS (s.drop 7))) := Lib.hid rfl
  have hal := alloc_below w (.cells #[.string ⟨#[]⟩, .int .i64 0, .string ⟨#[]⟩] 24)
  have hnew := heap_alloc_new w (.cells #[.string ⟨#[]⟩, .int .i64 0, .string ⟨#[]⟩] 24)
  obtain ⟨c0, c1, c2, f0, f1, f2⟩ := row_facts3 hnew
  generalize Ur.parseL s = R at *
  by_cases hlen : 4096 < s.length
  · have HR : Hid (R = (Ur.noT, 101)) := Lib.hid (by rw [HL.out, if_pos hlen])
    go_enter Tryz.func6, Tryz.ntmps6
    go_wp2
    refine bodyPost_ret (v := resV (Ur.noT, 101)) (by simp [results, Tryz.results6, go_sem, c0, c1, c2, Ur.tgtV, Ur.noT, bs, resV]) rfl ⟨by rw [HR.out], by first | exact hal | exact ((hal.setCell (by simp) _).setCell (by simp) _).setCell (by simp) _⟩
  rw [if_neg hlen] at HL
  have HBad : Hid (s.all Ur.okC = false → R = (Ur.noT, 30)) := Lib.hid fun h => by rw [HL.out, if_pos h]
  go_enter Tryz.func6, Tryz.ntmps6
  go_upto_region 4 with fail
  generalize hw1 : w.alloc (.cells #[.string ⟨#[]⟩, .int .i64 0, .string ⟨#[]⟩] 24) = w1 at *
  clear hw1
  go_loopg [22] s.length (fun q i wr => ∃ k : Nat, k ≤ s.length ∧ q + k = s.length ∧ i = .int .i64 k ∧ Hid ((s.take k).all Ur.okC = true) ∧ wr = w1)
  case atStart => exact ⟨0, by omega, by omega, rfl, Lib.hid (by simp), rfl⟩
  case round =>
    obtain ⟨k, hk, hr, rfl, HA, rfl⟩ := hrel
    obtain ⟨w1, rfl⟩ : ∃ w1, w1 = wr := ⟨_, rfl⟩
    by_cases hlt : k < s.length
    · have hc255 := s[k].toNat_lt
      cases ho : Ur.okC s[k] with
      | true =>
        obtain ⟨g1, g2, g3⟩ := okC_good ho
        have e35 := u8nek g3 35 rfl
        have HAN : Hid ((s.take (k + 1)).all Ur.okC = true) := Lib.hid (by rw [all_snoc _ s k hlt, HA.out, ho]; rfl)
        clear ho g3 HA HL HBad
        go_wp2
        go_roundg (s.length - (k + 1))
        case measure => omega
        case rel => exact ⟨k + 1, by omega, by omega, by go_num, HAN, rfl⟩
      | false =>
        have HR := Lib.hid (HBad.out (all_stop Ur.okC s k hlt ho))
        have hb := okC_bad ho
        clear ho HA HL HBad
        by_cases g1 : s[k].toNat ≤ 32
        · go_wp2
          refine bodyPost_ret (v := resV (Ur.noT, 30)) (by simp [results, Tryz.results6, go_sem, c0, c1, c2, Ur.tgtV, Ur.noT, bs, resV]) rfl ⟨by rw [HR.out], by first | exact hal | exact ((hal.setCell (by simp) _).setCell (by simp) _).setCell (by simp) _⟩
        · by_cases g2 : 127 ≤ s[k].toNat
          · go_wp2
            refine bodyPost_ret (v := resV (Ur.noT, 30)) (by simp [results, Tryz.results6, go_sem, c0, c1, c2, Ur.tgtV, Ur.noT, bs, resV]) rfl ⟨by rw [HR.out], by first | exact hal | exact ((hal.setCell (by simp) _).setCell (by simp) _).setCell (by simp) _⟩
          · have g3 : s[k] = 35 := by rcases hb with h | h | h; omega; omega; exact h
            have e35 := u8eqk g3 35 rfl
            clear g3 hb
            go_wp2
            refine bodyPost_ret (v := resV (Ur.noT, 30)) (by simp [results, Tryz.results6, go_sem, c0, c1, c2, Ur.tgtV, Ur.noT, bs, resV]) rfl ⟨by rw [HR.out], by first | exact hal | exact ((hal.setCell (by simp) _).setCell (by simp) _).setCell (by simp) _⟩
    · obtain rfl : k = s.length := by omega
      have hall := all_full Ur.okC s HA.out
      have hok : ∀ b ∈ s, Ur.okC b = true := List.all_eq_true.1 hall
      rw [if_neg (by rw [hall]; simp)] at HL
      clear HA HBad hall
      by_cases h7 : s.length < 7
      · have HR : Hid (R = (Ur.noT, 31)) := Lib.hid (by
          rw [HL.out, if_pos]
          intro h
          have := congrArg List.length h
          rw [fold_length] at this
          simp [Ur.sch] at this; omega)
        clear HL
        go_wp2
        refine bodyPost_ret (v := resV (Ur.noT, 31)) (by simp [results, Tryz.results6, go_sem, c0, c1, c2, Ur.tgtV, Ur.noT, bs, resV]) rfl ⟨by rw [HR.out], by first | exact hal | exact ((hal.setCell (by simp) _).setCell (by simp) _).setCell (by simp) _⟩
      · have h7i : (7 : Int) ≤ (s.length : Int) := by omega
        have hF := fold_any (s.take 7) w1 (by simp; omega)
        have h7L := fold_length (s.take 7)
        generalize fold (s.take 7) = F7 at *
        by_cases hsc : F7 = [104, 116, 116, 112, 58, 47, 47]
        · subst hsc
          rw [if_neg (show ¬ ([104, 116, 116, 112, 58, 47, 47] : List UInt8) ≠ Ur.sch from fun h => h rfl)] at HL
          have hrl : (s.drop 7).length ≤ 4096 := by simp; omega
          have hrok : ∀ b ∈ s.drop 7, Ur.okC b = true := fun b hb => hok b (List.mem_of_mem_drop hb)
          clear h7L
          go_wp2_with fail
          refine hF.mono ?_
          rintro e w2 ⟨rfl, hb2⟩
          have hr2 := row_keep hnew hb2
          have hB2 := bnext hal hb2 hal.size
          clear hF hb2 hnew hal c0 c1 c2 f0 f1 f2
          go_upto_region 12 with fail
          clear hok hlt hk hr h7 h7i hlen
          generalize s.drop 7 = r at *
          have hI := any_any r w2 (by omega) hrok
          go_wp2_with fail
          refine hI.mono ?_
          rintro e w3 ⟨rfl, hb3⟩
          have hr3 := row_keep hr2 hb3
          have hB3 := bnext hB2 hb3 hB2.size
          have hend := Ur.end_of_any r
          have hkl := Ur.endI_le r
          rw [← Ur.take_end, ← Ur.drop_end] at HL
          generalize Lib.indexAny r [47, 63] = ix at *
          generalize Ur.endI r = k at *
          clear hI hr2 hB2 hb3
          go_upto_if 58 with fail
          go_cut [5] (fun v wx => v = .int .i64 (k : Int) ∧ wx = w3)
          case first =>
            by_cases hi : ix < 0
            · rw [if_pos hi] at hend
              go_wp2
              go_meet
              case rel => exact ⟨by rw [← hend], rfl⟩
            · rw [if_neg hi] at hend
              go_wp2
              go_meet
              case rel => exact ⟨by rw [← hend], rfl⟩
          case rest =>
            obtain ⟨rfl, rfl⟩ := hcut
            obtain ⟨w3, rfl⟩ : ∃ w3, w3 = wc := ⟨_, rfl⟩
            clear hend
            have hM3 := maxl_b hM hB3
            have hNl : (r.take k).length ≤ 4096 := by simp; omega
            have hQl : (r.drop k).length ≤ 4096 := by simp; omega
            have hC := cut_any (r.take k) 58 w3 hM3 (by omega)
            have hlA := Ur.cutA_le 58 (r.take k)
            have hlB := Ur.cutB_le 58 (r.take k)
            have hki : (k : Int) ≤ (r.length : Int) := by omega
            generalize Ur.cutA 58 (r.take k) = A at *
            generalize Ur.cutB 58 (r.take k) = B at *
            generalize Ur.hasC 58 (r.take k) = H at *
            have hH := isHost_any A
            have hFA := fold_any A
            have hPo := port_any B
            unfold Ur.behind at HL
            cases hh : Ur.hostB A with
            | false =>
              have HR : Hid (R = (Ur.noT, 32)) := Lib.hid (by rw [HL.out, if_pos hh])
              rw [hh] at hH
              clear HL hh hFA hPo hM3
              go_wp2_with fail
              refine hC.mono ?_
              rintro e w4 ⟨rfl, hb4⟩
              obtain ⟨c0, c1, c2, f0, f1, f2⟩ := row_facts3 (row_keep hr3 hb4)
              have hB4 := bnext hB3 hb4 hB3.size
              clear hC
              go_wp2_with fail
              refine (hH _ (by omega)).mono ?_
              rintro e w5 ⟨rfl, rfl⟩
              clear hH
              go_wp2
              refine bodyPost_ret (v := resV (Ur.noT, 32)) (by simp [results, Tryz.results6, go_sem, c0, c1, c2, Ur.tgtV, Ur.noT, bs, resV]) rfl ⟨by rw [HR.out], by first | exact hB4 | exact ((hB4.setCell (by simp) _).setCell (by simp) _).setCell (by simp) _⟩
            | true =>
              rw [hh] at hH
              rw [if_neg (by rw [hh]; simp)] at HL
              clear hh hM3
              generalize fold A = FA at *
              go_wp2_with fail
              refine hC.mono ?_
              rintro e w4 ⟨rfl, hb4⟩
              have hr4 := row_keep hr3 hb4
              have hB4 := bnext hB3 hb4 hB3.size
              clear hC hr3 hB3 hb4
              go_wp2_with fail
              refine (hH _ (by omega)).mono ?_
              rintro e w5 ⟨rfl, rfl⟩
              clear hH
              go_wp2_with fail
              refine (hFA _ (by omega)).mono ?_
              rintro e w5 ⟨rfl, hb5⟩
              have hr5 := row_keep hr4 hb5
              have hB5 := bnext hB4 hb5 hB4.size
              have hlt5 : w.heap.size < w5.heap.size := (Array.getElem?_eq_some_iff.1 hr5).1
              have hal6 := alloc_below w5 (.cells #[.string (bs FA), .int .i64 80, .string ⟨#[]⟩] 24)
              have ht6 := heap_alloc_new w5 (.cells #[.string (bs FA), .int .i64 80, .string ⟨#[]⟩] 24)
              have hr6 := row_keep hr5 hal6
              have hB6 := bnext hB5 hal6 hB5.size
              clear hFA hr4 hB4 hb5 hr5 hB5
              go_upto_if 77 with fail
              go_cut [10] (fun v wx => ∃ p : Int, Hid (p = Ur.portD B ∧ p ≠ 0) ∧ wx.heap[w5.heap.size]? = some (.cells #[.string (bs FA), .int .i64 p, .string ⟨#[]⟩] 24 (0, 0)) ∧ wx.heap[w.heap.size]? = some (.cells #[.string ⟨#[]⟩, .int .i64 0, .string ⟨#[]⟩] 24 (0, 0)) ∧ Below w.heap.size w wx)
              case first =>
                clear hM hE
                generalize hbe : B.isEmpty = be at *
                cases be with
                | true =>
                  obtain rfl : B = [] := by simpa using hbe
                  clear hbe
                  have hR0 : Ur.portD [] = 80 := rfl
                  clear hPo HL
                  go_wp2
                  go_meet
                  case rel => exact ⟨80, Lib.hid ⟨hR0.symm, by decide⟩, ht6, hr6, hB6⟩
                | false =>
                  have hB0 : B ≠ [] := by rintro rfl; simp at hbe
                  clear hbe
                  have hPD : Ur.portD B = Ur.portV B := by unfold Ur.portD; rw [if_neg hB0]
                  unfold portE at hPo
                  have hn1 : ¬ w.heap.size = w5.heap.size := by omega
                  have hn2 : ¬ w5.heap.size = w.heap.size := by omega
                  clear hB0
                  by_cases hp : Ur.portV B = 0
                  · have HR : Hid (R = (Ur.noT, 33)) := Lib.hid (by rw [HL.out, if_pos (by rw [hPD, hp])])
                    rw [hp, if_pos rfl] at hPo
                    clear HL hPD hp
                    go_wp2_with fail
                    refine (hPo _ (by omega)).mono ?_
                    rintro e w7 ⟨rfl, hb7⟩
                    obtain ⟨t0, t1, t2, tf0, tf1, tf2⟩ := row_facts3 (row_keep ht6 hb7)
                    obtain ⟨c0, c1, c2, f0, f1, f2⟩ := row_facts3 (row_keep hr6 hb7)
                    have hB7 := bnext hB6 hb7 hB6.size
                    have hB8 := hB7.setCell (p := ⟨w5.heap.size, 1, none⟩) (by simp; omega) (.int .i64 0)
                    clear hPo
                    go_wp2
                    refine bodyPost_ret (v := resV (Ur.noT, 33)) (by simp [results, Tryz.results6, go_sem, c0, c1, c2, Ur.tgtV, Ur.noT, bs, resV]) rfl ⟨by rw [HR.out], by first | exact hB8 | exact ((hB8.setCell (by simp) _).setCell (by simp) _).setCell (by simp) _⟩
                  · rw [if_neg hp] at hPo
                    have HPP : Hid (Ur.portV B = Ur.portD B ∧ Ur.portV B ≠ 0) := Lib.hid ⟨hPD.symm, hp⟩
                    generalize Ur.portV B = pv at *
                    clear HL hPD hp
                    go_wp2_with fail
                    refine (hPo _ (by omega)).mono ?_
                    rintro e w7 ⟨rfl, hb7⟩
                    have ht7 := row_keep ht6 hb7
                    have hr7 := row_keep hr6 hb7
                    obtain ⟨t0, t1, t2, tf0, tf1, tf2⟩ := row_facts3 ht7
                    have hB7 := bnext hB6 hb7 hB6.size
                    clear hPo
                    go_wp2
                    go_meet
                    case rel => exact ⟨pv, HPP, (row_set1 ht7).1, row_other hr7 hn2, hB7.setCell (p := ⟨w5.heap.size, 1, none⟩) (by simp; omega) _⟩
              case rest =>
                obtain ⟨p, HP, ht, hr, hB⟩ := hcut
                obtain ⟨wo, rfl⟩ : ∃ wo, wo = wc := ⟨_, rfl⟩
                have hL := HL.out
                rw [← HP.out.1, if_neg HP.out.2] at hL
                have hn1 : ¬ w.heap.size = w5.heap.size := by omega
                have hn2 : ¬ w5.heap.size = w.heap.size := by omega
                have hD := decode_any (r.drop k) wo (maxl_b hM hB) (errs_b hE hB) (by omega)
                have hDl := fun r' h => dec_len (r.drop k) (r := r') h
                generalize Ur.dec (r.drop k) = D at *
                clear HL HP hPo hr6 hB6 hal6 ht6
                cases D with
                | none =>
                  have HR : Hid (R = (Ur.noT, 30)) := Lib.hid hL
                  unfold decV at hD
                  dsimp only at hD
                  clear hL hDl
                  go_wp2_with fail
                  refine hD.mono ?_
                  rintro e w7 ⟨rfl, hb7⟩
                  obtain ⟨c0, c1, c2, f0, f1, f2⟩ := row_facts3 (row_keep hr hb7)
                  have hB7 := bnext hB hb7 hB.size
                  clear hD
                  go_wp2
                  refine bodyPost_ret (v := resV (Ur.noT, 30)) (by simp [results, Tryz.results6, go_sem, c0, c1, c2, Ur.tgtV, Ur.noT, bs, resV]) rfl ⟨by rw [HR.out], by first | exact hB7 | exact ((hB7.setCell (by simp) _).setCell (by simp) _).setCell (by simp) _⟩
                | some q =>
                  unfold decV at hD
                  dsimp only at hD hL
                  have hql : q.length ≤ 4096 := Nat.le_trans (hDl q rfl) hQl
                  have HL2 := Lib.hid hL
                  clear hL hDl
                  go_wp2_with fail
                  refine hD.mono ?_
                  rintro e w7 ⟨rfl, hb7⟩
                  have ht7 := row_keep ht hb7
                  have hr7 := row_keep hr hb7
                  have hB7 := bnext hB hb7 hB.size
                  have hC2 := cut_any q 63 w7 (maxl_b hM hB7) (by omega)
                  clear hD ht hr hB hb7
                  go_wp2_with fail
                  refine hC2.mono ?_
                  rintro e w8 ⟨rfl, hb8⟩
                  have ht8 := row_keep ht7 hb8
                  have hr8 := row_keep hr7 hb8
                  have hB8 := bnext hB7 hb8 hB7.size
                  have hlA2 := Ur.cutA_le 63 q
                  have hlB2 := Ur.cutB_le 63 q
                  have hCl := clean_any (Ur.cutA 63 q) w8 (maxl_b hM hB8) (by omega)
                  have hTl := tidy_len (Ur.cutA 63 q)
                  clear hC2 ht7 hr7 hB7 hb8 hM hE
                  cases hq : Ur.hasC 63 q with
                  | false =>
                    rw [Ur.cut_no hq, List.append_nil] at HL2
                    have HR := Lib.hid HL2.out
                    clear HL2 hq
                    generalize Ur.tidyL (Ur.cutA 63 q) = TP at *
                    go_wp2_with fail
                    refine hCl.mono ?_
                    rintro e w9 ⟨rfl, hb9⟩
                    obtain ⟨t0, t1, t2, tf0, tf1, tf2⟩ := row_facts3 (row_keep ht8 hb9)
                    obtain ⟨c0, c1, c2, f0, f1, f2⟩ := row_facts3 (row_keep hr8 hb9)
                    have hB9 := bnext hB8 hb9 hB8.size
                    have hB10 := hB9.setCell (p := ⟨w5.heap.size, 2, none⟩) (by simp; omega) (.string (bs TP))
                    clear hCl
                    go_wp2
                    refine bodyPost_ret (v := resV ((FA, p, TP), 0)) (by simp [results, Tryz.results6, go_sem, c0, c1, c2, Ur.tgtV, Ur.noT, bs, resV]) rfl ⟨by rw [HR.out], by first | exact hB10 | exact ((hB10.setCell (by simp) _).setCell (by simp) _).setCell (by simp) _⟩
                  | true =>
                    rw [Ur.cut_yes hq] at HL2
                    generalize Ur.cutB 63 q = B2 at *
                    generalize Ur.tidyL (Ur.cutA 63 q) = TP at *
                    have HR : Hid (R = ((FA, p, TP ++ ([63] ++ B2)), 0)) := Lib.hid HL2.out
                    clear HL2 hq
                    go_wp2_with fail
                    refine hCl.mono ?_
                    rintro e w9 ⟨rfl, hb9⟩
                    obtain ⟨t0, t1, t2, tf0, tf1, tf2⟩ := row_facts3 (row_keep ht8 hb9)
                    obtain ⟨c0, c1, c2, f0, f1, f2⟩ := row_facts3 (row_keep hr8 hb9)
                    have hB9 := bnext hB8 hb9 hB8.size
                    have hB10 := hB9.setCell (p := ⟨w5.heap.size, 2, none⟩) (by simp; omega) (.string (bs TP))
                    have hB11 := hB10.setCell (p := ⟨w5.heap.size, 2, none⟩) (by simp; omega) (.string (bs (TP ++ ([63] ++ B2))))
                    clear hCl
                    go_wp2
                    have hbs : (bs TP ++ ((⟨#[63]⟩ : ByteArray) ++ bs B2)) = bs (TP ++ 63 :: B2) := by rw [show (⟨#[63]⟩ : ByteArray) = bs [63] from rfl, bs_append, bs_append]; rfl
                    refine bodyPost_ret (v := resV ((FA, p, TP ++ ([63] ++ B2)), 0)) (by simp [results, Tryz.results6, go_sem, c0, c1, c2, Ur.tgtV, Ur.noT, resV, hbs]) rfl ⟨by rw [HR.out], by first | exact hB11 | exact ((hB11.setCell (by simp) _).setCell (by simp) _).setCell (by simp) _⟩
        · have HR : Hid (R = (Ur.noT, 31)) := Lib.hid (by rw [HL.out, if_pos (show F7 ≠ Ur.sch from hsc)])
          have hsn : (F7 == [104, 116, 116, 112, 58, 47, 47]) = false := by simpa using hsc
          clear HL hsc
          go_wp2_with fail
          refine hF.mono ?_
          rintro e w2 ⟨rfl, hb2⟩
          obtain ⟨c0, c1, c2, f0, f1, f2⟩ := row_facts3 (row_keep hnew hb2)
          have hB2 := bnext hal hb2 hal.size
          clear hF
          go_wp2
          refine bodyPost_ret (v := resV (Ur.noT, 31)) (by simp [results, Tryz.results6, go_sem, c0, c1, c2, Ur.tgtV, Ur.noT, bs, resV]) rfl ⟨by rw [HR.out], by first | exact hB2 | exact ((hB2.setCell (by simp) _).setCell (by simp) _).setCell (by simp) _⟩
end Go.Proofs.YtdeaoagdjnnppaaGreatDoor
