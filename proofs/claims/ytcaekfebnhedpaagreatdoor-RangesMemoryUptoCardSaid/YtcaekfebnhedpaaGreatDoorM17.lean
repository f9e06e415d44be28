/- Joined texts: Walks of valid.Tag, valid.Same and their references: both compute 'tgR'; Walks of valid.Same and its reference: both compute 'sameR'. The conditions stand in each line. -/
import Derived.Test.YtcaekfebnhedpaaGreatDoorM10
import Derived.Deep.Cut
import Derived.Deep.DeepCutAuto
set_option linter.unusedVariables false
set_option linter.unusedSimpArgs false
namespace Go.Proofs.YtcaekfebnhedpaaGreatDoor
open Go.RowKit

def badB (c : UInt8) : Bool := decide (c.toNat ≤ 32) || (c.toNat == 34 || c.toNat == 127)
def tgW (s : List UInt8) : Bool := preB [87, 47] s
def tgO (s : List UInt8) : List UInt8 := cutP [87, 47] s
def tgIn (o : List UInt8) : List UInt8 := cutS [34] (cutP [34] o)
def tgOk (o : List UInt8) : Bool := preB [34] o && (sufB [34] (cutP [34] o) && (tgIn o).all fun c => !badB c)
def tgR (s : List UInt8) : List UInt8 × Bool × Bool := if tgOk (tgO s) = true then (tgO s, tgW s, true) else ([], false, false)
theorem tgR_yes {s : List UInt8} (h1 : preB [34] (tgO s) = true) (h2 : sufB [34] (cutP [34] (tgO s)) = true) (h3 : ((tgIn (tgO s)).all fun c => !badB c) = true) : tgR s = (tgO s, tgW s, true) := by
  unfold tgR tgOk; rw [h1, h2, h3]; rfl
theorem tgR_no1 {s : List UInt8} (h1 : preB [34] (tgO s) = false) : tgR s = ([], false, false) := by unfold tgR tgOk; rw [h1]; rfl
theorem tgR_no2 {s : List UInt8} (h2 : sufB [34] (cutP [34] (tgO s)) = false) : tgR s = ([], false, false) := by unfold tgR tgOk; rw [h2]; simp
theorem tgR_no3 {s : List UInt8} (h3 : ((tgIn (tgO s)).all fun c => !badB c) = false) : tgR s = ([], false, false) := by unfold tgR tgOk; rw [h3]; simp
def tgV (s : List UInt8) : Value := .tuple #[.string (bs (tgR s).1), .bool (tgR s).2.1, .bool (tgR s).2.2]
theorem tgV_yes {s : List UInt8} (h : tgR s = (tgO s, tgW s, true)) : tgV s = .tuple #[.string (bs (tgO s)), .bool (tgW s), .bool true] := by unfold tgV; rw [h]
theorem tgV_no {s : List UInt8} (h : tgR s = ([], false, false)) : tgV s = .tuple #[.string (bs []), .bool false, .bool false] := by unfold tgV; rw [h]

theorem badB_no {c : UInt8} (h : badB c = false) : 32 < (c.toNat : Int) ∧ ((c.toNat : Int) == 34) = false ∧ ((c.toNat : Int) == 127) = false := by
  unfold badB at h; simp at h; refine ⟨by omega, ?_, ?_⟩ <;> simp <;> omega
theorem badB_yes {c : UInt8} (h : badB c = true) : (c.toNat : Int) ≤ 32 ∨ (32 < (c.toNat : Int) ∧ ((c.toNat : Int) == 34) = true) ∨ (32 < (c.toNat : Int) ∧ ((c.toNat : Int) == 34) = false ∧ ((c.toNat : Int) == 127) = true) := by
  unfold badB at h; simp at h ⊢; omega
set_option maxHeartbeats 400000 in
theorem tag_p (s : List UInt8) (w : World) (hs : s.length ≤ 140737488355328) :
    Calls Tryz.prog 85 #[.string (bs s)] w fun e w' => e = .returned (tgV s) ∧ w = w' := by
  have l1 : (tgO s).length ≤ s.length := cutP_le _ _
  have l2 : (cutP [34] (tgO s)).length ≤ (tgO s).length := cutP_le _ _
  have l3 : (tgIn (tgO s)).length ≤ (cutP [34] (tgO s)).length := cutS_le _ _
  by_cases h1 : preB [34] (tgO s) = true
  case neg =>
    have h1' : preB [34] (tgO s) = false := by simpa using h1
    have HV := Lib.hid (tgV_no (tgR_no1 h1'))
    go_enter Tryz.func85, Tryz.ntmps85
    go_wp2_with fail
    refine (cutPrefix_any s [87, 47] _ hs (by simp)).mono ?_
    rintro e w' ⟨rfl, rfl⟩
    go_wp2_with fail
    refine (cutPrefix_any (tgO s) [34] _ (by omega) (by simp)).mono ?_
    rintro e w' ⟨rfl, rfl⟩
    go_wp2_with fail
    refine (cutSuffix_any _ [34] _ (by omega) (by simp)).mono ?_
    rintro e w' ⟨rfl, rfl⟩
    go_wp2
    all_goals
      go_ret3
      exact ⟨ret_v HV.out.symm, rfl⟩
  by_cases h2 : sufB [34] (cutP [34] (tgO s)) = true
  case neg =>
    have h2' : sufB [34] (cutP [34] (tgO s)) = false := by simpa using h2
    have HV := Lib.hid (tgV_no (tgR_no2 h2'))
    go_enter Tryz.func85, Tryz.ntmps85
    go_wp2_with fail
    refine (cutPrefix_any s [87, 47] _ hs (by simp)).mono ?_
    rintro e w' ⟨rfl, rfl⟩
    go_wp2_with fail
    refine (cutPrefix_any (tgO s) [34] _ (by omega) (by simp)).mono ?_
    rintro e w' ⟨rfl, rfl⟩
    go_wp2_with fail
    refine (cutSuffix_any _ [34] _ (by omega) (by simp)).mono ?_
    rintro e w' ⟨rfl, rfl⟩
    go_wp2
    all_goals
      go_ret3
      exact ⟨ret_v HV.out.symm, rfl⟩
  have HY : Hid (((tgIn (tgO s)).all fun c => !badB c) = true → tgV s = .tuple #[.string (bs (tgO s)), .bool (tgW s), .bool true]) := fun h3 => tgV_yes (tgR_yes h1 h2 h3)
  have HN : Hid (((tgIn (tgO s)).all fun c => !badB c) = false → tgV s = .tuple #[.string (bs []), .bool false, .bool false]) := fun h3 => tgV_no (tgR_no3 h3)
  go_enter Tryz.func85, Tryz.ntmps85
  go_wp2_with fail
  refine (cutPrefix_any s [87, 47] _ hs (by simp)).mono ?_
  rintro e w' ⟨rfl, rfl⟩
  go_wp2_with fail
  refine (cutPrefix_any (tgO s) [34] _ (by omega) (by simp)).mono ?_
  rintro e w' ⟨rfl, rfl⟩
  go_wp2_with fail
  refine (cutSuffix_any _ [34] _ (by omega) (by simp)).mono ?_
  rintro e w' ⟨rfl, rfl⟩
  have hI : cutS [34] (cutP [34] (tgO s)) = tgIn (tgO s) := rfl
  rw [hI]
  clear hI
  have l4 : (tgIn (tgO s)).length ≤ 140737488355328 := by omega
  clear l2 l3
  generalize tgIn (tgO s) = I at *
  go_wp2
  go_loop [35] (fun t => ∃ k : Nat, k ≤ I.length ∧ t = .int .i64 k ∧ ((I.take k).all fun c => !badB c) = true) (fun t => I.length - (intOf t).toNat)
  case atStart => exact ⟨0, by omega, rfl, by simp⟩
  case round =>
    obtain ⟨k, hk, rfl, hall⟩ := hrel
    have HA := Lib.hid hall
    clear hall
    by_cases hlt : k < I.length
    · have HS := Lib.hid (all_snoc (fun c => !badB c) I k hlt)
      have HT := Lib.hid (all_stop (fun c => !badB c) I k hlt)
      cases hb : badB I[k]
      · have hc := badB_no hb
        have HB := Lib.hid hb
        clear hb
        obtain ⟨hc1, hc2, hc3⟩ := hc
        go_wp2
        go_round
        case rel => exact ⟨k + 1, by omega, by go_num, by rw [HS.out, HA.out, HB.out]; rfl⟩
        case measure => simp [intOf]; omega
      · have hc := badB_yes hb
        have HF := Lib.hid (HN.out (HT.out (by rw [hb]; rfl)))
        clear hb
        rcases hc with hc1 | ⟨hc1, hc2⟩ | ⟨hc1, hc2, hc3⟩
        all_goals
          go_wp2
          go_ret3
          exact ⟨ret_v HF.out.symm, rfl⟩
    · obtain rfl : k = I.length := by omega
      have HF := Lib.hid (HY.out (all_full _ _ HA.out))
      go_wp2
      go_ret3
      exact ⟨ret_v HF.out.symm, rfl⟩

theorem preB_one {o : List UInt8} {c : UInt8} : preB [c] o = decide (∃ h : 0 < o.length, o[0] = c) := by
  cases o with
  | nil => simp [preB]
  | cons a r => simp [preB]; rfl
theorem tg_short {o : List UInt8} (h : o.length < 2) : tgOk o = false := by
  match o, h with
  | [], _ => rfl
  | [a], _ => unfold tgOk sufB cutP preB; simp; intro ha; subst ha; decide
theorem tg_long {o : List UInt8} (h : 2 ≤ o.length) : tgOk o = (o[0] == 34 && (o[o.length - 1] == 34 && ((o.drop 1).take (o.length - 2)).all fun c => !badB c)) := by
  match o, h with
  | a :: b :: r, _ =>
    by_cases ha : a = 34
    · subst ha
      have e1 : preB [34] (34 :: b :: r) = true := by simp [preB]
      have e2 : cutP [34] (34 :: b :: r) = b :: r := by unfold cutP; rw [if_pos e1]; rfl
      have e3 : sufB [34] (b :: r) = ((b :: r)[r.length] == 34) := by
        unfold sufB
        simp only [List.length_cons, List.length_nil]
        rw [show r.length + 1 - (0 + 1) = r.length from by omega, List.drop_eq_getElem_cons (by simp)]
        simp
      unfold tgOk tgIn
      rw [e1, e2, e3]
      by_cases hl : (b :: r)[r.length] = 34
      · have e4 : cutS [34] (b :: r) = (b :: r).take r.length := by unfold cutS; rw [if_pos (by rw [e3, hl]; rfl)]; simp
        rw [e4]
        simp
      · have hl' : ((b :: r)[r.length] == 34) = false := by simpa using hl
        rw [hl']
        simp [hl']
    · have e1 : preB [34] (a :: b :: r) = false := by simp [preB, ha]
      unfold tgOk
      rw [e1]
      simp [ha]

theorem ne34 {c : UInt8} (h : ¬ c = 34) : ¬ ((c.toNat : Int) = 34) := by
  intro h'; apply h; apply UInt8.toNat_inj.1; simpa using Int.ofNat.inj h'
theorem ne34b {c : UInt8} (h : ¬ c = 34) : ((c.toNat : Int) != 34) = true := by simpa using ne34 h
theorem eq34 {c : UInt8} (h : c = 34) : (c.toNat : Int) = 34 := by subst h; rfl
theorem eq34b {c : UInt8} (h : c = 34) : ((c.toNat : Int) != 34) = false := by subst h; rfl
theorem mid_all {o : List UInt8} {f : UInt8 → Bool} {k : Nat} (h1 : 1 ≤ k) (h2 : k < o.length - 1) :
    (((o.drop 1).take k).all f) = ((((o.drop 1).take (k - 1)).all f) && f (o[k]'(by omega))) := by
  obtain ⟨j, rfl⟩ : ∃ j, k = j + 1 := ⟨k - 1, by omega⟩
  rw [all_snoc f (o.drop 1) j (by simp; omega)]
  simp [Nat.add_comm 1 j]
theorem mid_stop {o : List UInt8} {f : UInt8 → Bool} {k : Nat} (h1 : 1 ≤ k) (h2 : k < o.length - 1) (hf : f (o[k]'(by omega)) = false) :
    (((o.drop 1).take (o.length - 2)).all f) = false := by
  obtain ⟨j, rfl⟩ : ∃ j, k = j + 1 := ⟨k - 1, by omega⟩
  refine all_stop f _ j (by simp; omega) ?_
  simpa [Nat.add_comm 1 j] using hf
set_option maxHeartbeats 400000 in
theorem tag_r (s : List UInt8) (w : World) (hs : s.length ≤ 140737488355328) :
    Calls Tryz.prog 96 #[.string (bs s)] w fun e w' => e = .returned (tgV s) ∧ w = w' := by
  have l1 : (tgO s).length ≤ s.length := cutP_le _ _
  have HY : Hid (tgOk (tgO s) = true → tgV s = .tuple #[.string (bs (tgO s)), .bool (tgW s), .bool true]) := fun h3 => tgV_yes (by unfold tgR; rw [if_pos h3])
  have HN : Hid (tgOk (tgO s) = false → tgV s = .tuple #[.string (bs []), .bool false, .bool false]) := fun h3 => tgV_no (by unfold tgR; rw [if_neg (by simp [h3])])
  have HW : Hid (preB [87, 47] s = true → tgO s = s.drop 2) := fun h => by unfold tgO cutP; rw [if_pos h]; rfl
  have HW' : Hid (preB [87, 47] s = false → tgO s = s) := fun h => by unfold tgO cutP; rw [if_neg (by simp [h])]
  have HU : Hid (tgW s = preB [87, 47] s) := rfl
  have HL := Lib.hid (@preB_len [87, 47] s)
  go_enter Tryz.func96, Tryz.ntmps96
  go_upto_region 1 with fail
  go_cut [5] (fun a wx => a = .bool (tgW s) ∧ wx = w)
  case first =>
    go_wp2_with fail
    all_goals
      go_meet
      case rel => exact ⟨congrArg Value.bool (by rw [HU.out]; first | rfl | (unfold preB; exact (pre_short (p := [87, 47]) (s := s) (by simp; omega)).symm)), rfl⟩
  case rest =>
    obtain ⟨rfl, rfl⟩ := hcut
    go_upto_if 15 with fail
    go_cut [0, 5] (fun a b wx => a = .string (bs (tgO s)) ∧ b = .bool (tgW s) ∧ wx = wc)
    case first =>
      cases hw : tgW s
      · have HE := HW'.out (by rw [← HU.out]; exact hw)
        have HE' := Lib.hid HE; clear HE
        go_wp2
        go_meet
        case rel => exact ⟨by rw [HE'.out], congrArg Value.bool hw.symm, rfl⟩
      · have hl := HL.out (by rw [← HU.out]; exact hw)
        have HE := HW.out (by rw [← HU.out]; exact hw)
        have HE' := Lib.hid HE; clear HE
        simp at hl
        go_wp2
        go_meet
        case rel => exact ⟨by rw [HE'.out], congrArg Value.bool hw.symm, rfl⟩
    case rest =>
      obtain ⟨rfl, rfl, rfl⟩ := hcut
      generalize tgO s = o at *
      clear HW HW' HL HU
      by_cases hlen : o.length < 2
      · have HF := Lib.hid (HN.out (tg_short hlen))
        go_wp2
        go_ret3
        exact ⟨ret_v HF.out.symm, rfl⟩
      · have HT := Lib.hid (tg_long (o := o) (by omega))
        by_cases h1 : o[0] = 34
        · by_cases h2 : o[o.length - 1] = 34
          · have HB : Hid (tgOk o = ((o.drop 1).take (o.length - 2)).all fun c => !badB c) := by rw [HT.out, h1, h2]; rfl
            clear HT
            have h1' := eq34 h1
            have h1'' := eq34b h1
            have h2' := eq34b h2
            clear h1 h2
            go_wp2
            go_loop [6] (fun t => ∃ k : Nat, 1 ≤ k ∧ k ≤ o.length - 1 ∧ t = .int .i64 k ∧ (((o.drop 1).take (k - 1)).all fun c => !badB c) = true) (fun t => o.length - (intOf t).toNat)
            case atStart => exact ⟨1, by omega, by omega, rfl, by simp⟩
            case round =>
              obtain ⟨k, hk1, hk, rfl, hall⟩ := hrel
              have HA := Lib.hid hall
              clear hall
              by_cases hlt : k < o.length - 1
              · have HS := Lib.hid (mid_all (f := fun c => !badB c) hk1 hlt)
                cases hb : badB o[k]
                · have hc := badB_no hb
                  have HB := Lib.hid hb
                  clear hb
                  obtain ⟨hc1, hc2, hc3⟩ := hc
                  go_wp2
                  go_round
                  case rel => exact ⟨k + 1, by omega, by omega, by go_num, by rw [Nat.add_sub_cancel, HS.out, HA.out, HB.out]; rfl⟩
                  case measure => simp [intOf]; omega
                · have hc := badB_yes hb
                  have HF := Lib.hid (HN.out (by rw [HB.out]; exact mid_stop hk1 hlt (by rw [hb]; rfl)))
                  clear hb
                  rcases hc with hc1 | ⟨hc1, hc2⟩ | ⟨hc1, hc2, hc3⟩
                  all_goals
                    go_wp2
                    go_ret3
                    exact ⟨ret_v HF.out.symm, rfl⟩
              · obtain rfl : k = o.length - 1 := by omega
                have HF := Lib.hid (HY.out (by rw [HB.out]; exact HA.out))
                go_wp2
                go_ret3
                exact ⟨ret_v HF.out.symm, rfl⟩
          · have HF := Lib.hid (HN.out (by rw [HT.out]; simp [h2]))
            have h1' := eq34 h1
            have h1'' := eq34b h1
            have h2' := ne34b h2
            clear h1 h2
            go_wp2
            go_ret3
            exact ⟨ret_v HF.out.symm, rfl⟩
        · have HF := Lib.hid (HN.out (by rw [HT.out]; simp [h1]))
          have h1' := ne34 h1
          have h1'' := ne34b h1
          clear h1
          go_wp2
          go_ret3
          exact ⟨ret_v HF.out.symm, rfl⟩

end Go.Proofs.YtcaekfebnhedpaaGreatDoor
set_option linter.unusedVariables false
set_option linter.unusedSimpArgs false
namespace Go.Proofs.YtcaekfebnhedpaaGreatDoor
open Go.RowKit

def sameR (a b : List UInt8) (strong : Bool) : Bool := (tgR a).2.2 && ((tgR b).2.2 && (((tgR a).1 == (tgR b).1) && (!strong || (!(tgR a).2.1 && !(tgR b).2.1))))

set_option maxHeartbeats 1000000 in
theorem same_p (a b : List UInt8) (strong : Bool) (w : World) (ha : a.length ≤ 140737488355328) (hb : b.length ≤ 140737488355328) :
    Calls Tryz.prog 57 #[.string (bs a), .string (bs b), .bool strong] w fun e w' => e = .returned (.bool (sameR a b strong)) ∧ w = w' := by
  rcases hra : tgR a with ⟨x, v, ok⟩
  rcases hrb : tgR b with ⟨y, u, is⟩
  have HA : Hid (tgV a = .tuple #[.string (bs x), .bool v, .bool ok]) := by unfold tgV; rw [hra]; rfl
  have HB : Hid (tgV b = .tuple #[.string (bs y), .bool u, .bool is]) := by unfold tgV; rw [hrb]; rfl
  rw [sameR, hra, hrb]
  clear hra hrb
  go_enter Tryz.func57, Tryz.ntmps57
  go_wp2_with fail
  refine (tag_p a _ ha).mono ?_
  rintro e w' ⟨rfl, rfl⟩
  rw [HA.out]
  go_wp2_with fail
  refine (tag_p b _ hb).mono ?_
  rintro e w' ⟨rfl, rfl⟩
  rw [HB.out]
  clear HA HB ha hb
  by_cases hq : x = y
  · subst hq
    go_wp2
    all_goals
      go_ret
      exact ⟨ret_bool (by cases ok <;> cases is <;> cases strong <;> cases v <;> cases u <;> first | (simp; done) | contradiction | simp_all), rfl⟩
  · have hq' : (x == y) = false := by simpa using hq
    go_wp2
    all_goals
      go_ret
      exact ⟨ret_bool (by rw [hq']; clear hq hq'; cases ok <;> cases is <;> cases strong <;> cases v <;> cases u <;> first | (simp; done) | contradiction | simp_all), rfl⟩

set_option maxHeartbeats 1000000 in
theorem same_r (a b : List UInt8) (strong : Bool) (w : World) (ha : a.length ≤ 140737488355328) (hb : b.length ≤ 140737488355328) :
    Calls Tryz.prog 69 #[.string (bs a), .string (bs b), .bool strong] w fun e w' => e = .returned (.bool (sameR a b strong)) ∧ w = w' := by
  rcases hra : tgR a with ⟨x, v, ok⟩
  rcases hrb : tgR b with ⟨y, u, is⟩
  have HA : Hid (tgV a = .tuple #[.string (bs x), .bool v, .bool ok]) := by unfold tgV; rw [hra]; rfl
  have HB : Hid (tgV b = .tuple #[.string (bs y), .bool u, .bool is]) := by unfold tgV; rw [hrb]; rfl
  rw [sameR, hra, hrb]
  clear hra hrb
  go_enter Tryz.func69, Tryz.ntmps69
  go_wp2_with fail
  refine (tag_r a _ ha).mono ?_
  rintro e w' ⟨rfl, rfl⟩
  rw [HA.out]
  go_wp2_with fail
  refine (tag_r b _ hb).mono ?_
  rintro e w' ⟨rfl, rfl⟩
  rw [HB.out]
  clear HA HB ha hb
  by_cases hq : x = y
  · subst hq
    go_wp2
    all_goals
      go_ret
      exact ⟨ret_bool (by cases ok <;> cases is <;> cases strong <;> cases v <;> cases u <;> first | (simp; done) | contradiction | simp_all), rfl⟩
  · have hq' : (x == y) = false := by simpa using hq
    go_wp2
    all_goals
      go_ret
      exact ⟨ret_bool (by rw [hq']; clear hq hq'; cases ok <;> cases is <;> cases strong <;> cases v <;> cases u <;> first | (simp; done) | contradiction | simp_all), rfl⟩

end Go.Proofs.YtcaekfebnhedpaaGreatDoor
