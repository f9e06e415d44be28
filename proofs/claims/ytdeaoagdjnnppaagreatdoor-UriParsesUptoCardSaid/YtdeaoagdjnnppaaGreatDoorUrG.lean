/- The reference's hex and decoded. Conditions: the text's length at most 2^30. -/
import Derived.Test.YtdeaoagdjnnppaaGreatDoorUrR
import Derived.Test.YtdeaoagdjnnppaaGreatDoorUrD
import Derived.Test.YtdeaoagdjnnppaaGreatDoorDet
import Derived.BigRegion
import Derived.Deep.RegionLaw
set_option linter.unusedVariables false
set_option linter.unusedSimpArgs false
namespace Go.Proofs.YtdeaoagdjnnppaaGreatDoor
open Go.RowKit

set_option maxRecDepth 100000
/-- A hexadecimal digit's value, -1: it is none. -/
def hexI (c : UInt8) : Int := match Ur.hexv c with | some x => (x : Int) | none => -1
theorem hexI_eq (c : UInt8) : hexI c = if 48 ≤ c.toNat ∧ c.toNat ≤ 57 then (c.toNat : Int) - 48 else if 65 ≤ c.toNat ∧ c.toNat ≤ 70 then (c.toNat : Int) - 55 else if 97 ≤ c.toNat ∧ c.toNat ≤ 102 then (c.toNat : Int) - 87 else -1 := by
  unfold hexI Ur.hexv
  split
  · rename_i x h
    split at h
    · rename_i h1; rw [if_pos h1]; cases h; omega
    · rename_i h1
      rw [if_neg h1]
      split at h
      · rename_i h2; rw [if_pos h2]; cases h; omega
      · rename_i h2
        rw [if_neg h2]
        split at h
        · rename_i h3; rw [if_pos h3]; cases h; omega
        · cases h
  · rename_i h
    split at h
    · cases h
    · rename_i h1
      rw [if_neg h1]
      split at h
      · cases h
      · rename_i h2
        rw [if_neg h2]
        split at h
        · cases h
        · rename_i h3; rw [if_neg h3]
set_option maxHeartbeats 2000000 in
theorem hex_any (c : UInt8) (w : World) : Calls Tryz.prog 41 #[.int .u8 c.toNat] w fun e w' => e = .returned (.int .i64 (hexI c)) ∧ w = w' := by
  have HV := Lib.hid (hexI_eq c)
  generalize hexI c = V at *
  have h255 := c.toNat_lt
  have hr : (c.toNat < 48) ∨ (48 ≤ c.toNat ∧ c.toNat ≤ 57) ∨ (58 ≤ c.toNat ∧ c.toNat ≤ 64) ∨ (65 ≤ c.toNat ∧ c.toNat ≤ 70) ∨ (71 ≤ c.toNat ∧ c.toNat ≤ 96) ∨ (97 ≤ c.toNat ∧ c.toNat ≤ 102) ∨ (103 ≤ c.toNat) := by omega
  rcases hr with h | h | h | h | h | h | h
  · have HW : Hid (V = -1) := Lib.hid (by rw [HV.out]; (repeat' split) <;> omega)
    have a0 : ¬ 48 ≤ c.toNat := by omega
    have a1 : c.toNat ≤ 57 := by omega
    have a2 : ¬ 65 ≤ c.toNat := by omega
    have a3 : c.toNat ≤ 70 := by omega
    have a4 : ¬ 97 ≤ c.toNat := by omega
    have a5 : c.toNat ≤ 102 := by omega
    clear HV h
    go_enter Tryz.func41, Tryz.ntmps41
    go_wp2
    go_ret
    exact ⟨ret_int HW.out.symm, rfl⟩
  · have HW : Hid (V = (c.toNat : Int) - 48) := Lib.hid (by rw [HV.out]; (repeat' split) <;> omega)
    have a0 : 48 ≤ c.toNat := by omega
    have a1 : c.toNat ≤ 57 := by omega
    have a2 : ¬ 65 ≤ c.toNat := by omega
    have a3 : c.toNat ≤ 70 := by omega
    have a4 : ¬ 97 ≤ c.toNat := by omega
    have a5 : c.toNat ≤ 102 := by omega
    clear HV h
    go_enter Tryz.func41, Tryz.ntmps41
    go_wp2
    go_ret
    exact ⟨ret_int HW.out.symm, rfl⟩
  · have HW : Hid (V = -1) := Lib.hid (by rw [HV.out]; (repeat' split) <;> omega)
    have a0 : 48 ≤ c.toNat := by omega
    have a1 : ¬ c.toNat ≤ 57 := by omega
    have a2 : ¬ 65 ≤ c.toNat := by omega
    have a3 : c.toNat ≤ 70 := by omega
    have a4 : ¬ 97 ≤ c.toNat := by omega
    have a5 : c.toNat ≤ 102 := by omega
    clear HV h
    go_enter Tryz.func41, Tryz.ntmps41
    go_wp2
    go_ret
    exact ⟨ret_int HW.out.symm, rfl⟩
  · have HW : Hid (V = (c.toNat : Int) - 55) := Lib.hid (by rw [HV.out]; (repeat' split) <;> omega)
    have a0 : 48 ≤ c.toNat := by omega
    have a1 : ¬ c.toNat ≤ 57 := by omega
    have a2 : 65 ≤ c.toNat := by omega
    have a3 : c.toNat ≤ 70 := by omega
    have a4 : ¬ 97 ≤ c.toNat := by omega
    have a5 : c.toNat ≤ 102 := by omega
    clear HV h
    go_enter Tryz.func41, Tryz.ntmps41
    go_wp2
    go_ret
    exact ⟨ret_int HW.out.symm, rfl⟩
  · have HW : Hid (V = -1) := Lib.hid (by rw [HV.out]; (repeat' split) <;> omega)
    have a0 : 48 ≤ c.toNat := by omega
    have a1 : ¬ c.toNat ≤ 57 := by omega
    have a2 : 65 ≤ c.toNat := by omega
    have a3 : ¬ c.toNat ≤ 70 := by omega
    have a4 : ¬ 97 ≤ c.toNat := by omega
    have a5 : c.toNat ≤ 102 := by omega
    clear HV h
    go_enter Tryz.func41, Tryz.ntmps41
    go_wp2
    go_ret
    exact ⟨ret_int HW.out.symm, rfl⟩
  · have HW : Hid (V = (c.toNat : Int) - 87) := Lib.hid (by rw [HV.out]; (repeat' split) <;> omega)
    have a0 : 48 ≤ c.toNat := by omega
    have a1 : ¬ c.toNat ≤ 57 := by omega
    have a2 : 65 ≤ c.toNat := by omega
    have a3 : ¬ c.toNat ≤ 70 := by omega
    have a4 : 97 ≤ c.toNat := by omega
    have a5 : c.toNat ≤ 102 := by omega
    clear HV h
    go_enter Tryz.func41, Tryz.ntmps41
    go_wp2
    go_ret
    exact ⟨ret_int HW.out.symm, rfl⟩
  · have HW : Hid (V = -1) := Lib.hid (by rw [HV.out]; (repeat' split) <;> omega)
    have a0 : 48 ≤ c.toNat := by omega
    have a1 : ¬ c.toNat ≤ 57 := by omega
    have a2 : 65 ≤ c.toNat := by omega
    have a3 : ¬ c.toNat ≤ 70 := by omega
    have a4 : 97 ≤ c.toNat := by omega
    have a5 : ¬ c.toNat ≤ 102 := by omega
    clear HV h
    go_enter Tryz.func41, Tryz.ntmps41
    go_wp2
    go_ret
    exact ⟨ret_int HW.out.symm, rfl⟩
theorem three_rdB (w : World) (X Y : UInt8) (t : TypeId) (a b : Int) (ha : a = (X.toNat : Int)) (hb : b = (Y.toNat : Int)) : RdB (w.alloc (.cells #[.int .u8 37, .int .u8 a, .int .u8 b] t)).drew (some ⟨w.heap.size, 0, none⟩) 3 [37, X, Y] := by
  subst ha hb
  show RdB (w.alloc (.cells #[.int .u8 37, .int .u8 X.toNat, .int .u8 Y.toNat] t)) (some ⟨w.heap.size, 0, none⟩) 3 [37, X, Y]
  refine ⟨rfl, rfl, fun _ => ⟨w.heap.size, 0, rfl, by simp, fun j u hu => ?_⟩⟩
  rw [Nat.zero_add, cell_of_row _ _ _ _ t (0, 0) (heap_alloc_new w _)]
  simpa [bytV] using hu
/-- bytes onto bytes, in a region that draws. -/
theorem step_appB {w : World} {ops : Array Oper} {o : Oper} {a : Act} {K : Act → World → Prop} {Q : Exit → Act → World → Prop} {E : Prop} (hgd : o.guard = none) (s x : Operand) (ho : o.op = .call { callee := .builtin .append, args := #[s, x], argTypes := #[42, 42] })
    (base : Nat) (v : Value) (l : List UInt8) (hs : a.eval s = v) (hown : OwnB w base v l) (A : Option Addr) (m c : Nat) (news : List UInt8) (hx : a.eval x = .slice A m c) (hr : RdB w A m news)
    (hbytes : l.length + m ≤ 140737488355328) (hbase : base ≤ w.heap.size)
    (h : ∀ A' n' c' w', OwnB w' base (.slice A' n' c') (l ++ news) → Below base w w' → Hid (n' = l.length + m) → K (a.put o.dst (.slice A' n' c')) w') : if Region.wanted o (yielded ops a.tmps) = true then Oper.wp Tryz.prog o a w K Q else E := by
  obtain ⟨i0, hi, hz0, hz1, hz2⟩ := info_parts byt_info
  refine step_append_any w hgd s x 42 ho base 5 i0 (.int .u8 0) 1 1 Tryz.underlying42 hi hz0 hz1 hz2 rfl (by decide) v l.length (l.map bytV) hs hown A m c (news.map bytV) hx hr.2 (byts_one _) (by unfold maxLen; omega) (by omega) hbase fun v' w' h2 h3 _ => ?_
  obtain ⟨A', c', rfl⟩ := own_slice h2
  refine h A' _ c' w' ?_ ((Below.refl base w).grown h3 hbase fun k hk => (hown.lt k hk).1) (Lib.hid rfl)
  unfold OwnB
  rw [List.length_append, hr.1, List.map_append]
  exact h2
def ddV (o : Option (List UInt8)) : Value := match o with
  | none => .tuple #[.string (bs []), .bool false]
  | some r => .tuple #[.string (bs r), .bool true]
theorem dd_plain {s acc : List UInt8} {i : Nat} {D : Option (List UInt8)} (hi : i < s.length) (hc : s[i] ≠ 37) (h : (Ur.dec (s.drop i)).map (acc ++ ·) = D) : (Ur.dec (s.drop (i + 1))).map ((acc ++ [s[i]]) ++ ·) = D := by
  rw [← h, List.drop_eq_getElem_cons hi, Ur.dec_plain _ hc]
  cases Ur.dec (s.drop (i + 1)) <;> simp
theorem dd_short {s acc : List UInt8} {i : Nat} {D : Option (List UInt8)} (hi : i < s.length) (hc : s[i] = 37) (hl : s.length ≤ i + 2) (h : (Ur.dec (s.drop i)).map (acc ++ ·) = D) : D = none := by
  rw [← h, List.drop_eq_getElem_cons hi, hc, Ur.dec_short (by simp; omega)]; rfl
theorem dd_three {s : List UInt8} {i : Nat} (hi : i + 2 < s.length) (hc : s[i]'(by omega) = 37) : s.drop i = 37 :: s[i + 1]'(by omega) :: s[i + 2] :: s.drop (i + 3) := by
  rw [List.drop_eq_getElem_cons (by omega : i < s.length), hc, List.drop_eq_getElem_cons (by omega : i + 1 < s.length), List.drop_eq_getElem_cons hi]
theorem dd_bad {s acc : List UInt8} {i : Nat} {D : Option (List UInt8)} (hi : i + 2 < s.length) (hc : s[i]'(by omega) = 37) (hn : Ur.hexv (s[i + 1]'(by omega)) = none ∨ Ur.hexv s[i + 2] = none) (h : (Ur.dec (s.drop i)).map (acc ++ ·) = D) : D = none := by
  rw [← h, dd_three hi hc, Ur.dec_bad _ hn]; rfl
theorem dd_code {s acc : List UInt8} {i x y : Nat} {D : Option (List UInt8)} (hi : i + 2 < s.length) (hc : s[i]'(by omega) = 37) (hx : Ur.hexv (s[i + 1]'(by omega)) = some x) (hy : Ur.hexv s[i + 2] = some y) (h : (Ur.dec (s.drop i)).map (acc ++ ·) = D) : (Ur.dec (s.drop (i + 3))).map ((acc ++ Ur.code x y) ++ ·) = D := by
  rw [← h, dd_three hi hc, Ur.dec_code _ hx hy]
  cases Ur.dec (s.drop (i + 3)) <;> simp
theorem hexB_tab : ∀ x : Fin 16, ((⟨#[48, 49, 50, 51, 52, 53, 54, 55, 56, 57, 65, 66, 67, 68, 69, 70]⟩ : ByteArray)[x.val]'x.isLt) = Ur.hexU x.val := by decide
theorem hexB_at {x : Nat} (h : x < 16) (h2 : x < (⟨#[48, 49, 50, 51, 52, 53, 54, 55, 56, 57, 65, 66, 67, 68, 69, 70]⟩ : ByteArray).size) : (((⟨#[48, 49, 50, 51, 52, 53, 54, 55, 56, 57, 65, 66, 67, 68, 69, 70]⟩ : ByteArray)[x]'h2).toNat : Int) = ((Ur.hexU x).toNat : Int) := congrArg (fun z : UInt8 => (z.toNat : Int)) (hexB_tab ⟨x, h⟩)
theorem hexU_at : ∀ x : Fin 16, ([48, 49, 50, 51, 52, 53, 54, 55, 56, 57, 65, 66, 67, 68, 69, 70] : List UInt8)[x.val] = Ur.hexU x.val := by decide
set_option maxHeartbeats 8000000 in
theorem decoded_any (s : List UInt8) (w : World) (hs : s.length ≤ 1073741824) :
    Calls Tryz.prog 22 #[.string (bs s)] w fun e w' => e = .returned (ddV (Ur.dec s)) ∧ Below w.heap.size w w' := by
  obtain ⟨D, hD⟩ : ∃ D, D = Ur.dec s := ⟨_, rfl⟩
  have H0 : Hid ((Ur.dec (s.drop 0)).map (([] : List UInt8) ++ ·) = D) := Lib.hid (by rw [hD, List.drop_zero]; cases Ur.dec s <;> rfl)
  rw [← hD]
  clear hD
  have HNo : Hid (D = none → ddV D = .tuple #[.string (bs []), .bool false]) := Lib.hid fun h => by rw [h]; rfl
  have HSo : Hid (∀ r, D = some r → ddV D = .tuple #[.string (bs r), .bool true]) := Lib.hid fun r h => by rw [h]; rfl
  have hm := OwnB.made w
  have hbm := alloc_below w (.cells #[] 5)
  go_enter Tryz.func22, Tryz.ntmps22
  go_upto_region 3 with fail
  generalize hw1 : w.alloc (.cells #[] 5) = w1 at *
  clear hw1
  go_loopg [4, 5] s.length (fun q v iv wr => ∃ (i : Nat) (acc : List UInt8) (A : Option Addr) (n c : Nat), i ≤ s.length ∧ q + i = s.length ∧ iv = .int .i64 (i : Int) ∧ v = .slice A n c ∧ OwnB wr w.heap.size (.slice A n c) acc ∧ Hid ((Ur.dec (s.drop i)).map (acc ++ ·) = D) ∧ acc.length ≤ i ∧ Below w.heap.size w wr)
  case atStart => exact ⟨0, [], _, 0, 0, by omega, by omega, rfl, rfl, hm, H0, by simp, hbm⟩
  case round =>
    clear hm hbm H0
    obtain ⟨i, acc, A, n, c, hi, hq, rfl, rfl, hown, HD, hal, hbr⟩ := hrel
    obtain ⟨wo, rfl⟩ : ∃ wo, wo = wr := ⟨_, rfl⟩
    by_cases hlt : i < s.length
    · have hc255 := s[i].toNat_lt
      by_cases h37 : s[i] = 37
      · have e37 := u8eqk h37 37 rfl
        have n37 : ((s[i].toNat : Int) != 37) = false := by rw [bne, e37]; rfl
        by_cases hsh : s.length ≤ i + 2
        · have HF := Lib.hid (HNo.out (dd_short hlt h37 hsh HD.out))
          have hge : (s.length : Int) ≤ (i : Int) + 2 := by omega
          clear HD h37 HNo HSo
          go_wp2
          go_ret2
          exact ⟨ret_v HF.out.symm, hbr⟩
        · have hge : ¬ (s.length : Int) ≤ (i : Int) + 2 := by omega
          have hi1 : i + 1 < s.length := by omega
          have hi2 : i + 2 < s.length := by omega
          have HA1 := Lib.hid fun W => hex_any s[i + 1] W
          have HA2 := Lib.hid fun W => hex_any s[i + 2] W
          have HB := Lib.hid fun hn => dd_bad (acc := acc) (D := D) hi2 h37 hn HD.out
          have HCo := Lib.hid fun x y hx hy => dd_code (acc := acc) (D := D) (x := x) (y := y) hi2 h37 hx hy HD.out
          clear HD h37
          unfold hexI at HA1 HA2
          cases hx : Ur.hexv s[i + 1] with
          | none =>
            have HF := Lib.hid (HNo.out (HB.out (.inl hx)))
            rw [hx] at HA1
            dsimp only at HA1
            clear hx HB HCo HNo HSo HA2
            go_wp2_with fail
            refine (HA1.out _).mono ?_
            rintro e w2 ⟨rfl, rfl⟩
            go_wp2
            go_ret2
            exact ⟨ret_v HF.out.symm, hbr⟩
          | some x =>
            have hx16 := Ur.hexv_lt hx
            rw [hx] at HA1
            dsimp only at HA1
            have x0 : ¬ (x : Int) < 0 := by omega
            cases hy : Ur.hexv s[i + 2] with
            | none =>
              have HF := Lib.hid (HNo.out (HB.out (.inr hy)))
              rw [hy] at HA2
              dsimp only at HA2
              clear hx hy HB HCo HNo HSo
              go_wp2_with fail
              refine (HA1.out _).mono ?_
              rintro e w2 ⟨rfl, rfl⟩
              go_wp2_with fail
              refine (HA2.out _).mono ?_
              rintro e w2 ⟨rfl, rfl⟩
              go_wp2
              go_ret2
              exact ⟨ret_v HF.out.symm, hbr⟩
            | some y =>
              have hy16 := Ur.hexv_lt hy
              rw [hy] at HA2
              dsimp only at HA2
              have y0 : ¬ (y : Int) < 0 := by omega
              have HN0 := Lib.hid (HCo.out x y hx hy)
              have hv : (UInt8.ofNat (16 * x + y)).toNat = 16 * x + y := by rw [UInt8.toNat_ofNat']; omega
              have hwv : IntKind.u8.wrap (16 * (x : Int) + (y : Int)) = ((UInt8.ofNat (16 * x + y)).toNat : Int) := by rw [hv, IntWalk.u8_in _ (by omega)]; omega
              have HCd : Hid (Ur.code x y = if Ur.unres (UInt8.ofNat (16 * x + y)) = true then [UInt8.ofNat (16 * x + y)] else [37, Ur.hexU x, Ur.hexU y]) := Lib.hid rfl
              have HUx := hexU_at ⟨x, hx16⟩
              have HUy := hexU_at ⟨y, hy16⟩
              have HV := Lib.hid hv
              generalize Ur.code x y = CO at *
              generalize UInt8.ofNat (16 * x + y) = v at *
              have HAl := Lib.hid fun W => ralnum_any v W
              have HUn : Hid (Ur.unres v = (Ur.alnum v || v == 45 || v == 46 || v == 95 || v == 126)) := Lib.hid rfl
              clear hx hy HB HCo HNo HSo hv
              go_wp2_with fail
              refine (HA1.out _).mono ?_
              rintro e w2 ⟨rfl, rfl⟩
              go_wp2_with fail
              refine (HA2.out _).mono ?_
              rintro e w2 ⟨rfl, rfl⟩
              have hw1 : IntKind.i64.wrap ((i : Int) + 1) = (i : Int) + 1 := IntWalk.i64_in _ (by omega)
              have hw2 : IntKind.i64.wrap ((i : Int) + 2) = (i : Int) + 2 := IntWalk.i64_in _ (by omega)
              have hw3 : IntKind.i64.wrap (16 * (x : Int)) = 16 * (x : Int) := IntWalk.i64_in _ (by omega)
              have hw4 : IntKind.i64.wrap (16 * (x : Int) + (y : Int)) = 16 * (x : Int) + (y : Int) := IntWalk.i64_in _ (by omega)
              have hb1 : 0 ≤ (i : Int) + 1 ∧ (i : Int) + 1 < (s.length : Int) := by omega
              have hb2 : 0 ≤ (i : Int) + 2 ∧ (i : Int) + 2 < (s.length : Int) := by omega
              go_upto_region 9 with fail
              refine wp_region_detN (n := 14) (S := fun _ W => OwnB W w.heap.size (.slice A n c) acc ∧ Below w.heap.size w W) (by kernel_rfl) rfl ⟨hown, hbr.drew⟩ ?_
              refine' DetS.takeL (i := 0) (v := _) rfl (by kernel_rfl) (by kernel_rfl) (by kernel_rfl) (YS.pure rfl ?sd9_0 ?rd9_0) ?nd9_0
              case rd9_0 => intro L W hS;  go_simp; first | rfl | (rw [if_neg (by omega)] <;> rfl) | (rw [if_neg (by simp; omega)] <;> rfl) | (rw [if_neg (by simp)] <;> rfl)
              case sd9_0 => exact fun L W _ h => h
              simp only [Act.put, List.setIfInBounds_toArray, List.set_cons_zero, List.set_cons_succ]
              refine' DetS.takeL (i := 1) (v := _) rfl (by kernel_rfl) (by kernel_rfl) (by kernel_rfl) (YS.pure rfl ?sd9_1 ?rd9_1) ?nd9_1
              case rd9_1 => intro L W hS;  go_simp; first | rfl | (rw [if_neg (by omega)] <;> rfl) | (rw [if_neg (by simp; omega)] <;> rfl) | (rw [if_neg (by simp)] <;> rfl)
              case sd9_1 => exact fun L W _ h => h
              simp only [Act.put, List.setIfInBounds_toArray, List.set_cons_zero, List.set_cons_succ]
              refine' DetS.takeL (i := 2) (v := _) rfl (by kernel_rfl) (by kernel_rfl) (by kernel_rfl) (YS.pure rfl ?sd9_2 ?rd9_2) ?nd9_2
              case rd9_2 => intro L W hS; go_simp; first | (rw [hw1] <;> rfl) | rfl
              case sd9_2 => exact fun L W _ h => h
              simp only [Act.put, List.setIfInBounds_toArray, List.set_cons_zero, List.set_cons_succ]
              refine' DetS.takeL (i := 3) (v := _) rfl (by kernel_rfl) (by kernel_rfl) (by kernel_rfl) (YS.pure rfl ?sd9_3 ?rd9_3) ?nd9_3
              case rd9_3 => intro L W hS; go_simp; first | (rw [dif_pos hb1] <;> rfl) | rfl
              case sd9_3 => exact fun L W _ h => h
              simp only [Act.put, List.setIfInBounds_toArray, List.set_cons_zero, List.set_cons_succ]
              refine' DetS.takeL (i := 4) (v := _) rfl (by kernel_rfl) (by kernel_rfl) (by kernel_rfl) (YS.call (f := _) (args := _) rfl ?rd9_4 ?cd9_4) ?nd9_4
              case rd9_4 => intro W; go_simp; constructor <;> rfl
              case cd9_4 =>
                intro L W hL hS
                refine (HA1.out W).mono ?_
                rintro e w9 ⟨rfl, rfl⟩
                exact ⟨by rfl, hS⟩
              simp only [Act.put, List.setIfInBounds_toArray, List.set_cons_zero, List.set_cons_succ]
              refine' DetS.takeL (i := 5) (v := _) rfl (by kernel_rfl) (by kernel_rfl) (by kernel_rfl) (YS.pure rfl ?sd9_5 ?rd9_5) ?nd9_5
              case rd9_5 => intro L W hS; go_simp; first | (rw [hw3] <;> rfl) | rfl
              case sd9_5 => exact fun L W _ h => h
              simp only [Act.put, List.setIfInBounds_toArray, List.set_cons_zero, List.set_cons_succ]
              refine' DetS.takeL (i := 6) (v := _) rfl (by kernel_rfl) (by kernel_rfl) (by kernel_rfl) (YS.pure rfl ?sd9_6 ?rd9_6) ?nd9_6
              case rd9_6 => intro L W hS;  go_simp; first | rfl | (rw [if_neg (by omega)] <;> rfl) | (rw [if_neg (by simp; omega)] <;> rfl) | (rw [if_neg (by simp)] <;> rfl)
              case sd9_6 => exact fun L W _ h => h
              simp only [Act.put, List.setIfInBounds_toArray, List.set_cons_zero, List.set_cons_succ]
              refine' DetS.takeL (i := 7) (v := _) rfl (by kernel_rfl) (by kernel_rfl) (by kernel_rfl) (YS.pure rfl ?sd9_7 ?rd9_7) ?nd9_7
              case rd9_7 => intro L W hS;  go_simp; first | rfl | (rw [if_neg (by omega)] <;> rfl) | (rw [if_neg (by simp; omega)] <;> rfl) | (rw [if_neg (by simp)] <;> rfl)
              case sd9_7 => exact fun L W _ h => h
              simp only [Act.put, List.setIfInBounds_toArray, List.set_cons_zero, List.set_cons_succ]
              refine' DetS.takeL (i := 8) (v := _) rfl (by kernel_rfl) (by kernel_rfl) (by kernel_rfl) (YS.pure rfl ?sd9_8 ?rd9_8) ?nd9_8
              case rd9_8 => intro L W hS; go_simp; first | (rw [hw2] <;> rfl) | rfl
              case sd9_8 => exact fun L W _ h => h
              simp only [Act.put, List.setIfInBounds_toArray, List.set_cons_zero, List.set_cons_succ]
              refine' DetS.takeL (i := 9) (v := _) rfl (by kernel_rfl) (by kernel_rfl) (by kernel_rfl) (YS.pure rfl ?sd9_9 ?rd9_9) ?nd9_9
              case rd9_9 => intro L W hS; go_simp; first | (rw [dif_pos hb2] <;> rfl) | rfl
              case sd9_9 => exact fun L W _ h => h
              simp only [Act.put, List.setIfInBounds_toArray, List.set_cons_zero, List.set_cons_succ]
              refine' DetS.takeL (i := 10) (v := _) rfl (by kernel_rfl) (by kernel_rfl) (by kernel_rfl) (YS.call (f := _) (args := _) rfl ?rd9_10 ?cd9_10) ?nd9_10
              case rd9_10 => intro W; go_simp; constructor <;> rfl
              case cd9_10 =>
                intro L W hL hS
                refine (HA2.out W).mono ?_
                rintro e w9 ⟨rfl, rfl⟩
                exact ⟨by rfl, hS⟩
              simp only [Act.put, List.setIfInBounds_toArray, List.set_cons_zero, List.set_cons_succ]
              refine' DetS.takeL (i := 11) (v := _) rfl (by kernel_rfl) (by kernel_rfl) (by kernel_rfl) (YS.pure rfl ?sd9_11 ?rd9_11) ?nd9_11
              case rd9_11 => intro L W hS; go_simp; first | (rw [hw4] <;> rfl) | rfl
              case sd9_11 => exact fun L W _ h => h
              simp only [Act.put, List.setIfInBounds_toArray, List.set_cons_zero, List.set_cons_succ]
              refine' DetS.takeL (i := 12) (v := _) rfl (by kernel_rfl) (by kernel_rfl) (by kernel_rfl) (YS.pure rfl ?sd9_12 ?rd9_12) ?nd9_12
              case rd9_12 => intro L W hS; go_simp; first | (rw [hwv] <;> rfl) | rfl
              case sd9_12 => exact fun L W _ h => h
              simp only [Act.put, List.setIfInBounds_toArray, List.set_cons_zero, List.set_cons_succ]
              refine' DetS.takeL (i := 13) (v := _) rfl (by kernel_rfl) (by kernel_rfl) (by kernel_rfl) (YS.pure rfl ?sd9_13 ?rd9_13) ?nd9_13
              case rd9_13 => intro L W hS;  go_simp; first | rfl | (rw [if_neg (by omega)] <;> rfl) | (rw [if_neg (by simp; omega)] <;> rfl) | (rw [if_neg (by simp)] <;> rfl)
              case sd9_13 => exact fun L W _ h => h
              simp only [Act.put, List.setIfInBounds_toArray, List.set_cons_zero, List.set_cons_succ]
              refine DetS.done (by kernel_rfl) (fun W hS => ?_) _
              obtain ⟨hown9, hbr9⟩ := hS
              obtain ⟨wo, rfl⟩ : ∃ wo, wo = W := ⟨_, rfl⟩
              have hbz := hbr9
              have hv255 := v.toNat_lt
              clear hown hbr HA1 HA2 hb1 hb2 hw1 hw2 hw3 hw4 x0 y0 n37 e37
              rcases hal1 : Ur.alnum v with _ | _
              · rw [hal1] at HAl
                by_cases h45 : v = 45
                · have e45 := u8eqk h45 45 rfl
                  have hUT : Ur.unres v = true := by rw [HUn.out, hal1, h45]; rfl
                  have hCO : CO = [v] := by rw [HCd.out, if_pos hUT]
                  clear hUT h45
                  subst hCO
                  clear HCd HUn HUx HUy HV hwv
                  go_wp2_with fail
                  refine (HAl.out _).mono ?_
                  rintro e w2 ⟨rfl, rfl⟩
                  clear HAl
                  go_wp2_with
                    (at_builtin
                     refine wp_appB rfl (.tmp 77) (.tmp 79) rfl w.heap.size (.slice A n c) acc rfl (hown9.step (alloc_below _ _)) _ 1 1 [v] rfl (one_rdB _ _ _) ?hby ?hbase ?_
                     case hby => omega
                     case hbase => have := hbz.size; simp; omega
                     intro A3 n3 c3 w3 hown3 hb3 hn3)
                  go_roundg (s.length - (i + 3))
                  case measure => omega
                  case rel => exact ⟨i + 3, acc ++ [v], A3, n3, c3, by omega, by omega, by go_num, rfl, hown3, HN0, by simp; omega, (bnext hbz (alloc_below _ _) hbz.size).trans hb3⟩
                · have e45 := u8nek h45 45 rfl
                  by_cases h46 : v = 46
                  · have e46 := u8eqk h46 46 rfl
                    have hUT : Ur.unres v = true := by rw [HUn.out, hal1, h46]; rfl
                    have hCO : CO = [v] := by rw [HCd.out, if_pos hUT]
                    clear hUT h45 h46
                    subst hCO
                    clear HCd HUn HUx HUy HV hwv
                    go_wp2_with fail
                    refine (HAl.out _).mono ?_
                    rintro e w2 ⟨rfl, rfl⟩
                    clear HAl
                    go_wp2_with
                      (at_builtin
                       refine wp_appB rfl (.tmp 77) (.tmp 79) rfl w.heap.size (.slice A n c) acc rfl (hown9.step (alloc_below _ _)) _ 1 1 [v] rfl (one_rdB _ _ _) ?hby ?hbase ?_
                       case hby => omega
                       case hbase => have := hbz.size; simp; omega
                       intro A3 n3 c3 w3 hown3 hb3 hn3)
                    go_roundg (s.length - (i + 3))
                    case measure => omega
                    case rel => exact ⟨i + 3, acc ++ [v], A3, n3, c3, by omega, by omega, by go_num, rfl, hown3, HN0, by simp; omega, (bnext hbz (alloc_below _ _) hbz.size).trans hb3⟩
                  · have e46 := u8nek h46 46 rfl
                    by_cases h95 : v = 95
                    · have e95 := u8eqk h95 95 rfl
                      have hUT : Ur.unres v = true := by rw [HUn.out, hal1, h95]; rfl
                      have hCO : CO = [v] := by rw [HCd.out, if_pos hUT]
                      clear hUT h45 h46 h95
                      subst hCO
                      clear HCd HUn HUx HUy HV hwv
                      go_wp2_with fail
                      refine (HAl.out _).mono ?_
                      rintro e w2 ⟨rfl, rfl⟩
                      clear HAl
                      go_wp2_with
                        (at_builtin
                         refine wp_appB rfl (.tmp 77) (.tmp 79) rfl w.heap.size (.slice A n c) acc rfl (hown9.step (alloc_below _ _)) _ 1 1 [v] rfl (one_rdB _ _ _) ?hby ?hbase ?_
                         case hby => omega
                         case hbase => have := hbz.size; simp; omega
                         intro A3 n3 c3 w3 hown3 hb3 hn3)
                      go_roundg (s.length - (i + 3))
                      case measure => omega
                      case rel => exact ⟨i + 3, acc ++ [v], A3, n3, c3, by omega, by omega, by go_num, rfl, hown3, HN0, by simp; omega, (bnext hbz (alloc_below _ _) hbz.size).trans hb3⟩
                    · have e95 := u8nek h95 95 rfl
                      by_cases h126 : v = 126
                      · have e126 := u8eqk h126 126 rfl
                        have hUT : Ur.unres v = true := by rw [HUn.out, hal1, h126]; rfl
                        have hCO : CO = [v] := by rw [HCd.out, if_pos hUT]
                        clear hUT h45 h46 h95 h126
                        subst hCO
                        clear HCd HUn HUx HUy HV hwv
                        go_wp2_with fail
                        refine (HAl.out _).mono ?_
                        rintro e w2 ⟨rfl, rfl⟩
                        clear HAl
                        go_wp2_with
                          (at_builtin
                           refine wp_appB rfl (.tmp 77) (.tmp 79) rfl w.heap.size (.slice A n c) acc rfl (hown9.step (alloc_below _ _)) _ 1 1 [v] rfl (one_rdB _ _ _) ?hby ?hbase ?_
                           case hby => omega
                           case hbase => have := hbz.size; simp; omega
                           intro A3 n3 c3 w3 hown3 hb3 hn3)
                        go_roundg (s.length - (i + 3))
                        case measure => omega
                        case rel => exact ⟨i + 3, acc ++ [v], A3, n3, c3, by omega, by omega, by go_num, rfl, hown3, HN0, by simp; omega, (bnext hbz (alloc_below _ _) hbz.size).trans hb3⟩
                      · have e126 := u8nek h126 126 rfl
                        have hCO : CO = [37, Ur.hexU x, Ur.hexU y] := by rw [HCd.out, if_neg (by rw [HUn.out, hal1]; simp [h45, h46, h95, h126])]
                        subst hCO
                        clear HCd HUn h45 h46 h95 h126
                        go_wp2_with fail
                        refine (HAl.out _).mono ?_
                        rintro e w2 ⟨rfl, rfl⟩
                        clear HAl
                        have hvx := HV.out
                        have hq : (v.toNat : Int).tdiv 16 = (x : Int) := by rw [hvx, Int.tdiv_eq_ediv_of_nonneg (by omega)]; omega
                        have hrm : (v.toNat : Int).tmod 16 = (y : Int) := by rw [hvx, Int.tmod_eq_emod_of_nonneg (by omega)]; omega
                        have hq8 : IntKind.u8.wrap (x : Int) = (x : Int) := IntWalk.u8_in _ (by omega)
                        have hr8 : IntKind.u8.wrap (y : Int) = (y : Int) := IntWalk.u8_in _ (by omega)
                        have hxi : (0 : Int) ≤ (x : Int) ∧ (x : Int) < 16 := by omega
                        have hyi : (0 : Int) ≤ (y : Int) ∧ (y : Int) < 16 := by omega
                        clear hvx
                        go_upto_region 13 with fail
                        have hsz9 : w.heap.size ≤ wo.heap.size + 1 := by have := hbz.size; omega
                        have hby9 : acc.length + 3 ≤ 140737488355328 := by omega
                        go_region_law (refine step_appB rfl (.tmp 81) (.tmp 90) rfl w.heap.size (.slice A n c) acc (by rfl) (hown9.step ((alloc_below _ _).drew)) _ 3 3 [37, Ur.hexU x, Ur.hexU y] (by rfl) (three_rdB _ _ _ _ _ _ (hexB_at hx16 _) (hexB_at hy16 _)) hby9 (by simpa using hsz9) ?_; intro A3 n3 c3 w3 hown3 hb3 hn3)
                        all_goals
                          have hB3 := (bnext hbz ((alloc_below wo _).drew) hbz.size).trans hb3
                          clear hb3 hn3 HUx HUy
                          go_wp2
                          go_roundg (s.length - (i + 3))
                          case measure => omega
                          case rel => exact ⟨i + 3, acc ++ [37, Ur.hexU x, Ur.hexU y], A3, n3, c3, by omega, by omega, by go_num, rfl, hown3, HN0, by simp; omega, hB3⟩
              · rw [hal1] at HAl
                have hUT : Ur.unres v = true := by rw [HUn.out, hal1]; rfl
                have hCO : CO = [v] := by rw [HCd.out, if_pos hUT]
                clear hUT
                subst hCO
                clear HCd HUn HUx HUy HV hwv
                go_wp2_with fail
                refine (HAl.out _).mono ?_
                rintro e w2 ⟨rfl, rfl⟩
                clear HAl
                go_wp2_with
                  (at_builtin
                   refine wp_appB rfl (.tmp 77) (.tmp 79) rfl w.heap.size (.slice A n c) acc rfl (hown9.step (alloc_below _ _)) _ 1 1 [v] rfl (one_rdB _ _ _) ?hby ?hbase ?_
                   case hby => omega
                   case hbase => have := hbz.size; simp; omega
                   intro A3 n3 c3 w3 hown3 hb3 hn3)
                go_roundg (s.length - (i + 3))
                case measure => omega
                case rel => exact ⟨i + 3, acc ++ [v], A3, n3, c3, by omega, by omega, by go_num, rfl, hown3, HN0, by simp; omega, (bnext hbz (alloc_below _ _) hbz.size).trans hb3⟩
      · have e37 := u8nek h37 37 rfl
        have n37 : ((s[i].toNat : Int) != 37) = true := by rw [bne, e37]; rfl
        have HN0 := Lib.hid (dd_plain hlt h37 HD.out)
        have hbz := hbr
        clear HD h37 HNo HSo
        go_wp2_with
          (at_builtin
           refine wp_appB rfl (.tmp 19) (.tmp 23) rfl w.heap.size (.slice A n c) acc rfl (hown.step (alloc_below _ _)) _ 1 1 [s[i]] rfl (one_rdB _ _ _) ?hby ?hbase ?_
           case hby => omega
           case hbase => have := hbz.size; simp; omega
           intro A3 n3 c3 w3 hown3 hb3 hn3)
        go_roundg (s.length - (i + 1))
        case measure => omega
        case rel => exact ⟨i + 1, acc ++ [s[i]], A3, n3, c3, by omega, by omega, by go_num, rfl, hown3, HN0, by simp; omega, (bnext hbz (alloc_below _ _) hbz.size).trans hb3⟩
    · obtain rfl : i = s.length := by omega
      have hd := HD.out
      rw [List.drop_eq_nil_of_le (Nat.le_refl _)] at hd
      have HF := Lib.hid (HSo.out acc (by rw [← hd]; simp [Ur.dec_nil]))
      have hrd := hown.rd
      have hcv := conv_bs (w := wo) (A := A) (n := n) (l := acc) hrd c
      clear HD hd HNo HSo
      go_wp2
      go_ret2
      exact ⟨ret_v HF.out.symm, hbr⟩
end Go.Proofs.YtdeaoagdjnnppaaGreatDoor
