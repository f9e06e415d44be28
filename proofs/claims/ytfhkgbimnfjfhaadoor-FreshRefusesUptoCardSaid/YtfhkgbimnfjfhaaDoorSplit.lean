/- tok.split and the reference's Pieces: the pieces of a text at a byte outside of quoted stretches. Conditions: the length at most 2^40. -/
import Derived.Test.YtfhkgbimnfjfhaaDoorTrim
set_option linter.unusedVariables false
set_option linter.unusedSimpArgs false
namespace Go.Proofs.YtfhkgbimnfjfhaaDoor
open Go.RowKit

theorem u8eq {a b : UInt8} (h : a = b) : ((a.toNat : Int) == (b.toNat : Int)) = true := by subst h; simp
theorem u8ne {a b : UInt8} (h : ¬ a = b) : ((a.toNat : Int) == (b.toNat : Int)) = false := by
  rw [beq_eq_false_iff_ne]; intro e; exact h (UInt8.toNat_inj.1 (by omega))
theorem u8eqk {a b : UInt8} (h : a = b) (k : Int) (hk : ((b.toNat : Nat) : Int) = k) : ((a.toNat : Int) == k) = true := by subst h; subst hk; simp
theorem u8nek {a b : UInt8} (h : ¬ a = b) (k : Int) (hk : ((b.toNat : Nat) : Int) = k) : ((a.toNat : Int) == k) = false := by subst hk; exact u8ne h
theorem span_slice (s : List UInt8) (f i : Nat) : (s.drop f).take (i - f) = span s f i := rfl
theorem span_len (s : List UInt8) (f i : Nat) : (span s f i).length ≤ s.length := by unfold span; rw [List.length_take, List.length_drop]; omega
theorem rest_map_end {c : UInt8} {s : List UInt8} {f i : Nat} {q : Bool} (g : List UInt8 → List UInt8) (h : s.length ≤ i) : (rest c s f i q).map g = [g (s.drop f)] := by rw [rest_end h]; rfl

set_option maxHeartbeats 1000000 in
theorem split_own (s : List UInt8) (c : UInt8) (w : World) (hs : s.length ≤ 1099511627776) :
    Calls Tryd.prog 47 #[.string (bs s), .int .u8 c.toNat] w fun e w' => ∃ A' n' c', e = .returned (.slice A' n' c') ∧ OwnS w' w.heap.size (.slice A' n' c') ((splitL c s).map trimL) ∧ Below w.heap.size w w' := by
  go_enter Tryd.func47, Tryd.ntmps47
  go_wp2
  go_loopw [5, 6, 7, 8] (fun v f q t wr => ∃ (i fr : Nat) (qb : Bool) (out : List (List UInt8)) (A' : Option Addr) (n' c' : Nat), fr ≤ i ∧ fr ≤ s.length ∧ i ≤ s.length + 1 ∧ t = .int .i64 i ∧ f = .int .i64 fr ∧ q = .bool qb ∧ v = .slice A' n' c' ∧ OwnS wr w.heap.size (.slice A' n' c') out ∧ out.length ≤ i ∧ Hid (out ++ (rest c s fr i qb).map trimL = (splitL c s).map trimL) ∧ Below w.heap.size w wr) (fun _ _ _ t _ => s.length + 1 - (intOf t).toNat)
  case atStart => exact ⟨0, 0, false, [], _, _, _, by omega, by omega, by omega, rfl, rfl, rfl, rfl, OwnS.nil _ _, by simp, Lib.hid (by rw [rest_start]; rfl), Below.refl _ _⟩
  case round =>
    obtain ⟨i, fr, qb, out, A', n', c', h1, h2, h3, rfl, rfl, rfl, rfl, hown, hol, HR, hbr⟩ := hrel
    by_cases hlt : i < s.length
    · have HX := Lib.hid (List.getElem?_eq_getElem hlt)
      have hfr1 : fr ≤ i + 1 := by omega
      cases qb
      · by_cases h34 : s[i] = 34
        · have e34 := u8eqk h34 34 rfl
          have HN : Hid (out ++ (rest c s fr (i + 1) true).map trimL = (splitL c s).map trimL) := Lib.hid (by rw [← HR.out, rest_quote h1 (by rw [HX.out, h34])]; rfl)
          clear h34 HX
          go_wp2
          go_roundw
          case rel => exact ⟨i + 1, fr, true, out, A', n', c', by omega, h2, by omega, by go_num, rfl, rfl, rfl, hown, by omega, HN, hbr⟩
          case measure => simp [intOf]; omega
        · have e34 := u8nek h34 34 rfl
          by_cases hc : s[i] = c
          · have ec := u8eq hc
            have HN : Hid ((out ++ [trimL (span s fr i)]) ++ (rest c s (i + 1) (i + 1) false).map trimL = (splitL c s).map trimL) := Lib.hid (by
              rw [← HR.out, rest_cut HX.out (by simp) (by simpa using h34) (by simpa using hc)]; simp)
            clear h34 HX hc
            have hsp := span_len s fr i
            go_wp2_with fail
            rw [span_slice]
            generalize span s fr i = p at *
            refine (trim_any p _ (by omega)).mono ?_
            rintro e w1 ⟨rfl, hb1⟩
            have hown1 := hown.step hb1
            have hbr1 := bnext hbr hb1 hbr.size
            generalize trimL p = p1 at *
            go_wp2_with
              (at_builtin
               refine wp_appS rfl (.tmp 42) (.tmp 48) rfl w.heap.size (.slice A' n' c') _ rfl (hown1.step (alloc_below _ _)) _ 1 1 [p1] rfl ?hr ?hby ?hbase ?_
               case hr => exact one_rdS' _ _ _ _ (by simp)
               case hby => omega
               case hbase => have := hbr1.size; simp; omega
               intro A3 n3 c3 w3 hown3 hb3 hn3)
            go_roundw
            case rel => exact ⟨i + 1, i + 1, false, out ++ [p1], A3, n3, c3, by omega, by omega, by omega, by go_num, by go_num, rfl, rfl, hown3, by simp; omega, HN, (bnext hbr1 (alloc_below _ _) hbr1.size).trans hb3⟩
            case measure => simp [intOf]; omega
          · have ec := u8ne hc
            have HN : Hid (out ++ (rest c s fr (i + 1) false).map trimL = (splitL c s).map trimL) := Lib.hid (by rw [← HR.out, rest_plain h1 HX.out (by simp) (by simpa using h34) (by simpa using hc)])
            clear h34 HX hc
            go_wp2
            go_roundw
            case rel => exact ⟨i + 1, fr, false, out, A', n', c', by omega, h2, by omega, by go_num, rfl, rfl, rfl, hown, by omega, HN, hbr⟩
            case measure => simp [intOf]; omega
      · by_cases h92 : s[i] = 92
        · have e92 := u8eqk h92 92 rfl
          have HN : Hid (out ++ (rest c s fr (i + 2) true).map trimL = (splitL c s).map trimL) := Lib.hid (by rw [← HR.out, rest_escape h1 (by rw [HX.out, h92]) rfl])
          clear h92 HX
          go_wp2
          go_roundw
          case rel => exact ⟨i + 2, fr, true, out, A', n', c', by omega, h2, by omega, by go_num, rfl, rfl, rfl, hown, by omega, HN, hbr⟩
          case measure => simp [intOf]; omega
        · have e92 := u8nek h92 92 rfl
          by_cases h34 : s[i] = 34
          · have e34 := u8eqk h34 34 rfl
            have HN : Hid (out ++ (rest c s fr (i + 1) false).map trimL = (splitL c s).map trimL) := Lib.hid (by rw [← HR.out, rest_quote h1 (by rw [HX.out, h34])]; rfl)
            clear h34 HX h92
            go_wp2
            go_roundw
            case rel => exact ⟨i + 1, fr, false, out, A', n', c', by omega, h2, by omega, by go_num, rfl, rfl, rfl, hown, by omega, HN, hbr⟩
            case measure => simp [intOf]; omega
          · have e34 := u8nek h34 34 rfl
            have HN : Hid (out ++ (rest c s fr (i + 1) true).map trimL = (splitL c s).map trimL) := Lib.hid (by rw [← HR.out, rest_plain h1 HX.out (by simpa using h92) (by simpa using h34) (by simp)])
            clear h34 HX h92
            go_wp2
            go_roundw
            case rel => exact ⟨i + 1, fr, true, out, A', n', c', by omega, h2, by omega, by go_num, rfl, rfl, rfl, hown, by omega, HN, hbr⟩
            case measure => simp [intOf]; omega
    · have HF : Hid (out ++ [trimL (s.drop fr)] = (splitL c s).map trimL) := Lib.hid (by rw [← HR.out, rest_map_end trimL (by omega)])
      have hdl : (s.drop fr).length ≤ s.length := by rw [List.length_drop]; omega
      go_wp2_with fail
      generalize s.drop fr = p at *
      refine (trim_any p _ (by omega)).mono ?_
      rintro e w1 ⟨rfl, hb1⟩
      have hown1 := hown.step hb1
      have hbr1 := bnext hbr hb1 hbr.size
      generalize trimL p = p1 at *
      go_wp2_with
        (at_builtin
         refine wp_appS rfl (.tmp 52) (.tmp 57) rfl w.heap.size (.slice A' n' c') _ rfl (hown1.step (alloc_below _ _)) _ 1 1 [p1] rfl ?hr ?hby ?hbase ?_
         case hr => exact one_rdS' _ _ _ _ (by simp)
         case hby => omega
         case hbase => have := hbr1.size; simp; omega
         intro A3 n3 c3 w3 hown3 hb3 hn3)
      go_ret
      exact ⟨A3, n3, c3, rfl, by rw [← HF.out]; exact hown3, (bnext hbr1 (alloc_below _ _) hbr1.size).trans hb3⟩
end Go.Proofs.YtfhkgbimnfjfhaaDoor
