/- Joined texts: tok.Trim and the reference's Trim: a text without blanks at its ends; tok.split and the reference's Pieces: the pieces of a text at a byte outside of quoted stretches; The reference's Pieces: the pieces of a text at a byte outside of quoted stretches. The conditions stand in each line. -/
import Derived.Test.YtcaekfebnhedpaaGreatDoorM1
import Derived.Test.YtcaekfebnhedpaaGreatDoorM3
import Derived.Test.YtcaekfebnhedpaaGreatDoorM4
set_option linter.unusedVariables false
set_option linter.unusedSimpArgs false
namespace Go.Proofs.YtcaekfebnhedpaaGreatDoor
open Go.RowKit

theorem trim_any (s : List UInt8) (w : World) (hs : s.length ≤ 140737488355328) :
    Calls Tryz.prog 73 #[.string (bs s)] w fun e w' => e = .returned (.string (bs (trimL s))) ∧ Below w.heap.size w w' := by
  go_enter Tryz.func73, Tryz.ntmps73
  go_wp2_with fail
  refine (Tryz.strings_Trim_set (bs s) (bs [32, 9]) w (by simp; omega) (by decide) (ascii_of_all (by decide))).mono ?_
  rintro e w1 ⟨rfl, hb1⟩
  go_wp2
  go_ret
  exact ⟨rfl, hb1⟩

set_option maxHeartbeats 400000 in
theorem trimR_any (s : List UInt8) (w : World) (hs : s.length ≤ 140737488355328) :
    Calls Tryz.prog 55 #[.string (bs s)] w fun e w' => e = .returned (.string (bs (trimL s))) ∧ w = w' := by
  have HT : Hid (∀ lo hi : Nat, lo ≤ hi → hi ≤ s.length → (∀ (j : Nat) b, j < lo → s[j]? = some b → blankB b = true) → (∀ (j : Nat) b, hi ≤ j → s[j]? = some b → blankB b = true) → (lo < hi → (∀ b, s[lo]? = some b → blankB b = false) ∧ (∀ b, s[hi - 1]? = some b → blankB b = false)) → (lo = hi → lo = s.length) → (s.drop lo).take (hi - lo) = trimL s) :=
    Lib.hid fun lo hi h1 h2 h3 h4 h5 h6 => (trimL_at s lo hi h1 h2 h3 h4 h5 h6).symm
  go_enter Tryz.func55, Tryz.ntmps55
  go_wp2
  go_loop [3] (fun t => ∃ k : Nat, k ≤ s.length ∧ t = .int .i64 k ∧ Hid (∀ (j : Nat) b, j < k → s[j]? = some b → blankB b = true)) (fun t => s.length - (intOf t).toNat)
  case atStart => exact ⟨0, by omega, rfl, Lib.hid (fun j b h => by omega)⟩
  case round =>
    obtain ⟨lo, hk, rfl, HA⟩ := hrel
    have HEND : Hid (∀ hi : Nat, lo ≤ hi → hi ≤ s.length → (lo < s.length → ∃ b, s[lo]? = some b ∧ blankB b = false) → (∀ (j : Nat) b, hi ≤ j → s[j]? = some b → blankB b = true) → (lo < hi → ∃ b, s[hi - 1]? = some b ∧ blankB b = false) → (s.drop lo).take (hi - lo) = trimL s) := Lib.hid fun hi h1 h2 h3 h4 h5 => by
      refine HT.out lo hi h1 h2 HA.out h4 (fun hlt => ⟨fun b hb => ?_, fun b hb => ?_⟩) (fun he => ?_)
      · obtain ⟨b2, e2, f2⟩ := h3 (by omega); rw [e2] at hb; cases hb; exact f2
      · obtain ⟨b2, e2, f2⟩ := h5 hlt; rw [e2] at hb; cases hb; exact f2
      · apply Classical.byContradiction
        intro hne
        obtain ⟨b2, e2, f2⟩ := h3 (by omega)
        have := h4 lo b2 (by omega) e2
        rw [f2] at this; cases this
    by_cases hlt : lo < s.length ∧ (s[lo]?.map blankB = some true)
    · obtain ⟨hl, HB⟩ := hlt
      have hbl : s[lo].toNat = 32 ∨ s[lo].toNat = 9 := by
        rw [List.getElem?_eq_getElem hl] at HB
        simp only [Option.map_some, Option.some.injEq, blankB, Bool.or_eq_true, beq_iff_eq] at HB
        rcases HB with h | h <;> rw [h] <;> simp
      have HN : Hid (∀ (j : Nat) b, j < lo + 1 → s[j]? = some b → blankB b = true) := Lib.hid fun j b hj hb => by
        by_cases h : j < lo
        · exact HA.out j b h hb
        · obtain rfl : j = lo := by omega
          rw [hb] at HB; simpa using HB
      clear HB
      rcases hbl with h32 | h9
      · have h1 : (s[lo].toNat : Int) = 32 := by omega
        go_wp2
        go_round
        case rel => exact ⟨lo + 1, by omega, by go_num, HN⟩
        case measure => simp [intOf]; omega
      · have h1 : ((s[lo].toNat : Int) == 32) = false := by rw [beq_eq_false_iff_ne]; omega
        have h2 : (s[lo].toNat : Int) = 9 := by omega
        go_wp2
        go_round
        case rel => exact ⟨lo + 1, by omega, by go_num, HN⟩
        case measure => simp [intOf]; omega
    · have H3 : Hid (lo < s.length → ∃ b, s[lo]? = some b ∧ blankB b = false) := Lib.hid fun hl => ⟨s[lo], List.getElem?_eq_getElem hl, by
        rw [List.getElem?_eq_getElem hl] at hlt
        simpa [hl] using hlt⟩
      have HH : Hid (∀ hi : Nat, lo ≤ hi → hi ≤ s.length → (∀ (j : Nat) b, hi ≤ j → s[j]? = some b → blankB b = true) → (lo < hi → ∃ b, s[hi - 1]? = some b ∧ blankB b = false) → (s.drop lo).take (hi - lo) = trimL s) := Lib.hid fun hi h1 h2 h4 h5 => HEND.out hi h1 h2 H3.out h4 h5
      clear HT HEND HA
      have h2 : ∀ hl : lo < s.length, ((s[lo].toNat : Int) == 32) = false ∧ ((s[lo].toNat : Int) == 9) = false := fun hl => by
        obtain ⟨b, hb, hf⟩ := H3.out hl
        rw [List.getElem?_eq_getElem hl] at hb
        cases hb
        rw [beq_eq_false_iff_ne, beq_eq_false_iff_ne]
        refine ⟨fun h => ?_, fun h => ?_⟩
        · have : s[lo] = 32 := UInt8.toNat_inj.1 (by simp; omega)
          rw [this] at hf; cases hf
        · have : s[lo] = 9 := UInt8.toNat_inj.1 (by simp; omega)
          rw [this] at hf; cases hf
      clear hlt H3
      have h3 : (∃ hl : lo < s.length, ((s[lo].toNat : Int) == 32) = false ∧ ((s[lo].toNat : Int) == 9) = false) ∨ ¬ lo < s.length := by
        by_cases hl : lo < s.length
        · exact .inl ⟨hl, h2 hl⟩
        · exact .inr hl
      clear h2
      rcases h3 with ⟨hl, hn1, hn2⟩ | hl
      all_goals
        go_wp2
        go_loop [4] (fun t => ∃ k : Nat, lo ≤ k ∧ k ≤ s.length ∧ t = .int .i64 k ∧ Hid (∀ (j : Nat) b, k ≤ j → s[j]? = some b → blankB b = true)) (fun t => (intOf t).toNat)
        case atStart => exact ⟨s.length, by omega, by omega, rfl, Lib.hid fun j b hj hb => by have := lt_of_get? hb; omega⟩
        case round =>
          obtain ⟨hi, hh1, hh2, rfl, HB⟩ := hrel
          by_cases hgt : lo < hi
          · have hi1 : hi - 1 < s.length := by omega
            have hcast : ((hi : Int) - 1) = ((hi - 1 : Nat) : Int) := by omega
            by_cases hbl : s[hi - 1].toNat = 32 ∨ s[hi - 1].toNat = 9
            · have HN : Hid (∀ (j : Nat) b, hi - 1 ≤ j → s[j]? = some b → blankB b = true) := Lib.hid fun j b hj hb => by
                by_cases h : hi ≤ j
                · exact HB.out j b h hb
                · obtain rfl : j = hi - 1 := by omega
                  rw [List.getElem?_eq_getElem hi1] at hb
                  cases hb
                  unfold blankB
                  rcases hbl with h | h
                  · rw [show s[hi - 1] = 32 from UInt8.toNat_inj.1 (by simpa using h)]; rfl
                  · rw [show s[hi - 1] = 9 from UInt8.toNat_inj.1 (by simpa using h)]; rfl
              rcases hbl with h32 | h9
              · have h1 : (s[hi - 1].toNat : Int) = 32 := by omega
                go_wp2
                go_round
                case rel => exact ⟨hi - 1, by omega, by omega, by go_num, HN⟩
                case measure => simp [intOf]; omega
              · have h1 : ((s[hi - 1].toNat : Int) == 32) = false := by rw [beq_eq_false_iff_ne]; omega
                have h2 : (s[hi - 1].toNat : Int) = 9 := by omega
                go_wp2
                go_round
                case rel => exact ⟨hi - 1, by omega, by omega, by go_num, HN⟩
                case measure => simp [intOf]; omega
            · have HR := Lib.hid (HH.out hi hh1 hh2 HB.out (fun _ => ⟨s[hi - 1], List.getElem?_eq_getElem hi1, by
                unfold blankB
                rw [Bool.or_eq_false_iff, beq_eq_false_iff_ne, beq_eq_false_iff_ne]
                refine ⟨fun h => hbl (.inl (by rw [h]; rfl)), fun h => hbl (.inr (by rw [h]; rfl))⟩⟩))
              have h1 : ((s[hi - 1].toNat : Int) == 32) = false := by rw [beq_eq_false_iff_ne]; omega
              have h2 : ((s[hi - 1].toNat : Int) == 9) = false := by rw [beq_eq_false_iff_ne]; omega
              clear hbl
              go_wp2
              go_ret
              exact ⟨by rw [← HR.out]; rfl, rfl⟩
          · have HR := Lib.hid (HH.out hi hh1 hh2 HB.out (fun h => absurd h hgt))
            go_wp2
            go_ret
            exact ⟨by rw [← HR.out]; rfl, rfl⟩
end Go.Proofs.YtcaekfebnhedpaaGreatDoor
set_option linter.unusedVariables false
set_option linter.unusedSimpArgs false
namespace Go.Proofs.YtcaekfebnhedpaaGreatDoor
open Go.RowKit

theorem u8eq {a b : UInt8} (h : a = b) : ((a.toNat : Int) == (b.toNat : Int)) = true := by subst h; simp
theorem u8ne {a b : UInt8} (h : ¬ a = b) : ((a.toNat : Int) == (b.toNat : Int)) = false := by
  rw [beq_eq_false_iff_ne]; intro e; exact h (UInt8.toNat_inj.1 (by omega))
theorem u8eqk {a b : UInt8} (h : a = b) (k : Int) (hk : ((b.toNat : Nat) : Int) = k) : ((a.toNat : Int) == k) = true := by subst h; subst hk; simp
theorem u8nek {a b : UInt8} (h : ¬ a = b) (k : Int) (hk : ((b.toNat : Nat) : Int) = k) : ((a.toNat : Int) == k) = false := by subst hk; exact u8ne h
theorem span_slice (s : List UInt8) (f i : Nat) : (s.drop f).take (i - f) = span s f i := rfl
theorem span_len (s : List UInt8) (f i : Nat) : (span s f i).length ≤ s.length := by unfold span; rw [List.length_take, List.length_drop]; omega
theorem rest_map_end {c : UInt8} {s : List UInt8} {f i : Nat} {q : Bool} (g : List UInt8 → List UInt8) (h : s.length ≤ i) : (rest c s f i q).map g = [g (s.drop f)] := by rw [rest_end h]; rfl

set_option maxHeartbeats 1000000 in
theorem split_own (s : List UInt8) (c : UInt8) (w : World) (hs : s.length ≤ 4398046511104) :
    Calls Tryz.prog 51 #[.string (bs s), .int .u8 c.toNat] w fun e w' => ∃ A' n' c', e = .returned (.slice A' n' c') ∧ OwnS w' w.heap.size (.slice A' n' c') ((splitL c s).map trimL) ∧ Below w.heap.size w w' := by
  go_enter Tryz.func51, Tryz.ntmps51
  go_wp2
  go_loopw [5, 6, 7, 8] (fun v f q t wr => ∃ (i fr : Nat) (qb : Bool) (out : List (List UInt8)) (A' : Option Addr) (n' c' : Nat), fr ≤ i ∧ fr ≤ s.length ∧ i ≤ s.length + 1 ∧ t = .int .i64 i ∧ f = .int .i64 fr ∧ q = .bool qb ∧ v = .slice A' n' c' ∧ OwnS wr w.heap.size (.slice A' n' c') out ∧ out.length ≤ i ∧ Hid (out ++ (rest c s fr i qb).map trimL = (splitL c s).map trimL) ∧ Below w.heap.size w wr) (fun _ _ _ t _ => s.length + 1 - (intOf t).toNat)
  case atStart => exact ⟨0, 0, false, [], _, _, _, by omega, by omega, by omega, rfl, rfl, rfl, rfl, OwnS.nil _ _, by simp, Lib.hid (by rw [rest_start]; rfl), Below.refl _ _⟩
  case round =>
    obtain ⟨i, fr, qb, out, A', n', c', h1, h2, h3, rfl, rfl, rfl, rfl, hown, hol, HR, hbr⟩ := hrel
    by_cases hlt : i < s.length
    · have HX := Lib.hid (List.getElem?_eq_getElem hlt)
      have hfr1 : fr ≤ i + 1 := by omega
      cases qb
      · by_cases h34 : s[i] = 34
        · have e34 := u8eqk h34 34 rfl
          have HN : Hid (out ++ (rest c s fr (i + 1) true).map trimL = (splitL c s).map trimL) := Lib.hid (by rw [← HR.out, rest_quote h1 (by rw [HX.out, h34])]; rfl)
          clear h34 HX
          go_wp2
          go_roundw
          case rel => exact ⟨i + 1, fr, true, out, A', n', c', by omega, h2, by omega, by go_num, rfl, rfl, rfl, hown, by omega, HN, hbr⟩
          case measure => simp [intOf]; omega
        · have e34 := u8nek h34 34 rfl
          by_cases hc : s[i] = c
          · have ec := u8eq hc
            have HN : Hid ((out ++ [trimL (span s fr i)]) ++ (rest c s (i + 1) (i + 1) false).map trimL = (splitL c s).map trimL) := Lib.hid (by
              rw [← HR.out, rest_cut HX.out (by simp) (by simpa using h34) (by simpa using hc)]; simp)
            clear h34 HX hc
            have hsp := span_len s fr i
            go_wp2_with fail
            rw [span_slice]
            generalize span s fr i = p at *
            refine (trim_any p _ (by omega)).mono ?_
            rintro e w1 ⟨rfl, hb1⟩
            have hown1 := hown.step hb1
            have hbr1 := bnext hbr hb1 hbr.size
            generalize trimL p = p1 at *
            go_wp2_with
              (at_builtin
               refine wp_appS rfl (.tmp 42) (.tmp 48) rfl w.heap.size (.slice A' n' c') _ rfl (hown1.step (alloc_below _ _)) _ 1 1 [p1] rfl ?hr ?hby ?hbase ?_
               case hr => exact one_rdS' _ _ _ _ (by simp)
               case hby => omega
               case hbase => have := hbr1.size; simp; omega
               intro A3 n3 c3 w3 hown3 hb3 hn3)
            go_roundw
            case rel => exact ⟨i + 1, i + 1, false, out ++ [p1], A3, n3, c3, by omega, by omega, by omega, by go_num, by go_num, rfl, rfl, hown3, by simp; omega, HN, (bnext hbr1 (alloc_below _ _) hbr1.size).trans hb3⟩
            case measure => simp [intOf]; omega
          · have ec := u8ne hc
            have HN : Hid (out ++ (rest c s fr (i + 1) false).map trimL = (splitL c s).map trimL) := Lib.hid (by rw [← HR.out, rest_plain h1 HX.out (by simp) (by simpa using h34) (by simpa using hc)])
            clear h34 HX hc
            go_wp2
            go_roundw
            case rel => exact ⟨i + 1, fr, false, out, A', n', c', by omega, h2, by omega, by go_num, rfl, rfl, rfl, hown, by omega, HN, hbr⟩
            case measure => simp [intOf]; omega
      · by_cases h92 : s[i] = 92
        · have e92 := u8eqk h92 92 rfl
          have HN : Hid (out ++ (rest c s fr (i + 2) true).map trimL = (splitL c s).map trimL) := Lib.hid (by rw [← HR.out, rest_escape h1 (by rw [HX.out, h92]) rfl])
          clear h92 HX
          go_wp2
          go_roundw
          case rel => exact ⟨i + 2, fr, true, out, A', n', c', by omega, h2, by omega, by go_num, rfl, rfl, rfl, hown, by omega, HN, hbr⟩
          case measure => simp [intOf]; omega
        · have e92 := u8nek h92 92 rfl
          by_cases h34 : s[i] = 34
          · have e34 := u8eqk h34 34 rfl
            have HN : Hid (out ++ (rest c s fr (i + 1) false).map trimL = (splitL c s).map trimL) := Lib.hid (by rw [← HR.out, rest_quote h1 (by rw [HX.out, h34])]; rfl)
            clear h34 HX h92
            go_wp2
            go_roundw
            case rel => exact ⟨i + 1, fr, false, out, A', n', c', by omega, h2, by omega, by go_num, rfl, rfl, rfl, hown, by omega, HN, hbr⟩
            case measure => simp [intOf]; omega
          · have e34 := u8nek h34 34 rfl
            have HN : Hid (out ++ (rest c s fr (i + 1) true).map trimL = (splitL c s).map trimL) := Lib.hid (by rw [← HR.out, rest_plain h1 HX.out (by simpa using h92) (by simpa using h34) (by simp)])
            clear h34 HX h92
            go_wp2
            go_roundw
            case rel => exact ⟨i + 1, fr, true, out, A', n', c', by omega, h2, by omega, by go_num, rfl, rfl, rfl, hown, by omega, HN, hbr⟩
            case measure => simp [intOf]; omega
    · have HF : Hid (out ++ [trimL (s.drop fr)] = (splitL c s).map trimL) := Lib.hid (by rw [← HR.out, rest_map_end trimL (by omega)])
      have hdl : (s.drop fr).length ≤ s.length := by rw [List.length_drop]; omega
      go_wp2_with fail
      generalize s.drop fr = p at *
      refine (trim_any p _ (by omega)).mono ?_
      rintro e w1 ⟨rfl, hb1⟩
      have hown1 := hown.step hb1
      have hbr1 := bnext hbr hb1 hbr.size
      generalize trimL p = p1 at *
      go_wp2_with
        (at_builtin
         refine wp_appS rfl (.tmp 52) (.tmp 57) rfl w.heap.size (.slice A' n' c') _ rfl (hown1.step (alloc_below _ _)) _ 1 1 [p1] rfl ?hr ?hby ?hbase ?_
         case hr => exact one_rdS' _ _ _ _ (by simp)
         case hby => omega
         case hbase => have := hbr1.size; simp; omega
         intro A3 n3 c3 w3 hown3 hb3 hn3)
      go_ret
      exact ⟨A3, n3, c3, rfl, by rw [← HF.out]; exact hown3, (bnext hbr1 (alloc_below _ _) hbr1.size).trans hb3⟩
end Go.Proofs.YtcaekfebnhedpaaGreatDoor
set_option linter.unusedVariables false
set_option linter.unusedSimpArgs false
namespace Go.Proofs.YtcaekfebnhedpaaGreatDoor
open Go.RowKit

set_option maxHeartbeats 1000000 in
theorem pieces_own (s : List UInt8) (c : UInt8) (w : World) (hs : s.length ≤ 4398046511104) :
    Calls Tryz.prog 54 #[.string (bs s), .int .u8 c.toNat] w fun e w' => ∃ A' n' c', e = .returned (.slice A' n' c') ∧ OwnS w' w.heap.size (.slice A' n' c') (splitL c s) ∧ Below w.heap.size w w' := by
  go_enter Tryz.func54, Tryz.ntmps54
  go_wp2
  go_loopw [5, 6, 7, 8] (fun v f q t wr => ∃ (i fr : Nat) (qb : Bool) (out : List (List UInt8)) (A' : Option Addr) (n' c' : Nat), fr ≤ i ∧ fr ≤ s.length ∧ i ≤ s.length + 1 ∧ t = .int .i64 i ∧ f = .int .i64 fr ∧ q = .bool qb ∧ v = .slice A' n' c' ∧ OwnS wr w.heap.size (.slice A' n' c') out ∧ out.length ≤ i ∧ Hid (out ++ rest c s fr i qb = splitL c s) ∧ Below w.heap.size w wr) (fun _ _ _ t _ => s.length + 1 - (intOf t).toNat)
  case atStart => exact ⟨0, 0, false, [], _, _, _, by omega, by omega, by omega, rfl, rfl, rfl, rfl, OwnS.made w, by simp, Lib.hid (by rw [rest_start]; rfl), alloc_below w _⟩
  case round =>
    obtain ⟨i, fr, qb, out, A', n', c', h1, h2, h3, rfl, rfl, rfl, rfl, hown, hol, HR, hbr⟩ := hrel
    by_cases hlt : i < s.length
    · have HX := Lib.hid (List.getElem?_eq_getElem hlt)
      have hfr1 : fr ≤ i + 1 := by omega
      cases qb
      · by_cases h34 : s[i] = 34
        · have e34 := u8eqk h34 34 rfl
          have HN : Hid (out ++ rest c s fr (i + 1) true = splitL c s) := Lib.hid (by rw [← HR.out, rest_quote h1 (by rw [HX.out, h34])]; rfl)
          clear h34 HX
          go_wp2
          go_roundw
          case rel => exact ⟨i + 1, fr, true, out, A', n', c', by omega, h2, by omega, by go_num, rfl, rfl, rfl, hown, by omega, HN, hbr⟩
          case measure => simp [intOf]; omega
        · have e34 := u8nek h34 34 rfl
          by_cases hc : s[i] = c
          · have ec := u8eq hc
            have HN : Hid ((out ++ [span s fr i]) ++ rest c s (i + 1) (i + 1) false = splitL c s) := Lib.hid (by
              rw [← HR.out, rest_cut HX.out (by simp) (by simpa using h34) (by simpa using hc)]; simp)
            clear h34 HX hc
            have hsp := span_len s fr i
            go_wp2_with
              (at_builtin
               refine wp_appS rfl (.tmp 40) (.tmp 45) rfl w.heap.size (.slice A' n' c') _ rfl (hown.step (alloc_below _ _)) _ 1 1 [span s fr i] rfl ?hr ?hby ?hbase ?_
               case hr => exact one_rdS' _ _ _ _ (by simp)
               case hby => omega
               case hbase => have := hbr.size; simp; omega
               intro A3 n3 c3 w3 hown3 hb3 hn3)
            go_roundw
            case rel => exact ⟨i + 1, i + 1, false, out ++ [span s fr i], A3, n3, c3, by omega, by omega, by omega, by go_num, by go_num, rfl, rfl, hown3, by simp; omega, HN, (bnext hbr (alloc_below _ _) hbr.size).trans hb3⟩
            case measure => simp [intOf]; omega
          · have ec := u8ne hc
            have HN : Hid (out ++ rest c s fr (i + 1) false = splitL c s) := Lib.hid (by rw [← HR.out, rest_plain h1 HX.out (by simp) (by simpa using h34) (by simpa using hc)])
            clear h34 HX hc
            go_wp2
            go_roundw
            case rel => exact ⟨i + 1, fr, false, out, A', n', c', by omega, h2, by omega, by go_num, rfl, rfl, rfl, hown, by omega, HN, hbr⟩
            case measure => simp [intOf]; omega
      · by_cases h92 : s[i] = 92
        · have e92 := u8eqk h92 92 rfl
          have HN : Hid (out ++ rest c s fr (i + 2) true = splitL c s) := Lib.hid (by rw [← HR.out, rest_escape h1 (by rw [HX.out, h92]) rfl])
          clear h92 HX
          go_wp2
          go_roundw
          case rel => exact ⟨i + 2, fr, true, out, A', n', c', by omega, h2, by omega, by go_num, rfl, rfl, rfl, hown, by omega, HN, hbr⟩
          case measure => simp [intOf]; omega
        · have e92 := u8nek h92 92 rfl
          by_cases h34 : s[i] = 34
          · have e34 := u8eqk h34 34 rfl
            have HN : Hid (out ++ rest c s fr (i + 1) false = splitL c s) := Lib.hid (by rw [← HR.out, rest_quote h1 (by rw [HX.out, h34])]; rfl)
            clear h34 HX h92
            go_wp2
            go_roundw
            case rel => exact ⟨i + 1, fr, false, out, A', n', c', by omega, h2, by omega, by go_num, rfl, rfl, rfl, hown, by omega, HN, hbr⟩
            case measure => simp [intOf]; omega
          · have e34 := u8nek h34 34 rfl
            have HN : Hid (out ++ rest c s fr (i + 1) true = splitL c s) := Lib.hid (by rw [← HR.out, rest_plain h1 HX.out (by simpa using h92) (by simpa using h34) (by simp)])
            clear h34 HX h92
            by_cases hc : s[i] = c
            · have ec := u8eq hc
              clear hc
              go_wp2
              go_roundw
              case rel => exact ⟨i + 1, fr, true, out, A', n', c', by omega, h2, by omega, by go_num, rfl, rfl, rfl, hown, by omega, HN, hbr⟩
              case measure => simp [intOf]; omega
            · have ec := u8ne hc
              clear hc
              go_wp2
              go_roundw
              case rel => exact ⟨i + 1, fr, true, out, A', n', c', by omega, h2, by omega, by go_num, rfl, rfl, rfl, hown, by omega, HN, hbr⟩
              case measure => simp [intOf]; omega
    · have HF : Hid (out ++ [s.drop fr] = splitL c s) := Lib.hid (by rw [← HR.out, rest_end (by omega)])
      have hdl : (s.drop fr).length ≤ s.length := by rw [List.length_drop]; omega
      go_wp2_with
        (at_builtin
         refine wp_appS rfl (.tmp 49) (.tmp 53) rfl w.heap.size (.slice A' n' c') _ rfl (hown.step (alloc_below _ _)) _ 1 1 [s.drop fr] rfl ?hr ?hby ?hbase ?_
         case hr => exact one_rdS' _ _ _ _ (by simp)
         case hby => omega
         case hbase => have := hbr.size; simp; omega
         intro A3 n3 c3 w3 hown3 hb3 hn3)
      go_ret
      exact ⟨A3, n3, c3, rfl, by rw [← HF.out]; exact hown3, (bnext hbr (alloc_below _ _) hbr.size).trans hb3⟩
end Go.Proofs.YtcaekfebnhedpaaGreatDoor
