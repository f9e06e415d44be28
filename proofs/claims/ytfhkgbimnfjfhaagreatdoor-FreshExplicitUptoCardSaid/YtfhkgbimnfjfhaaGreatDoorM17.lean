/- Joined texts: fields.Get (all values of a name, whether there is one); Storable in plain Lean; The reference's Get; whether a name is told, by both; statuses; Statuses: negative, keeps; among. The conditions stand in each line. -/
import Derived.Test.YtfhkgbimnfjfhaaGreatDoorM4
import Derived.Test.YtfhkgbimnfjfhaaGreatDoorM10
import Derived.Test.YtfhkgbimnfjfhaaGreatDoorM11
import Derived.Lib.SmallJoins
set_option linter.unusedVariables false
set_option linter.unusedSimpArgs false
namespace Go.Proofs.YtfhkgbimnfjfhaaGreatDoor
open Go.RowKit

theorem joinTail_len (sep : List UInt8) (M : Nat) : ∀ r : List (List UInt8), (∀ x ∈ r, x.length ≤ M) → (Lib.joinTail sep r).length ≤ r.length * (sep.length + M)
  | [], _ => by simp [Lib.joinTail]
  | x :: r, h => by
    have ih := joinTail_len sep M r (fun y hy => h y (by simp [hy]))
    have hx := h x (by simp)
    have e : Lib.joinTail sep (x :: r) = sep ++ x ++ Lib.joinTail sep r := by simp [Lib.joinTail]
    rw [e, List.length_append, List.length_append, List.length_cons, Nat.succ_mul]
    omega
theorem join_len (sep : List UInt8) (M : Nat) (l : List (List UInt8)) (h : ∀ x ∈ l, x.length ≤ M) : (Lib.join l sep).length ≤ l.length * (sep.length + M) := by
  cases l with
  | nil => simp [Lib.join_nil]
  | cons x r =>
    rw [Lib.join_cons, List.length_append, List.length_cons, Nat.succ_mul]
    have := joinTail_len sep M r (fun y hy => h y (by simp [hy]))
    have := h x (by simp)
    omega
/-- strings.Join at an owned row of texts. -/
theorem join_any (A : Option Addr) (n c B : Nat) (l : List (List UInt8)) (sep : List UInt8) (w : World) (ho : OwnS w B (.slice A n c) l) (hn : n ≤ 1048576) (hv : ∀ v ∈ l, v.length ≤ 1048576) (hsep : sep.length ≤ 1048576) :
    Calls Tryz.prog 58 #[.slice A n c, .string (bs sep)] w fun e w' => e = .returned (.string (bs (Lib.join l sep))) ∧ Below w.heap.size w w' := by
  have hr := ho.rd
  by_cases h0 : n = 0
  · subst h0
    have e1 : l = [] := List.eq_nil_of_length_eq_zero hr.1
    subst e1
    exact (Tryz.strings_Join_none A c (bs sep) w).mono fun e w' h => ⟨h.1, by rw [h.2]; exact Below.refl _ _⟩
  · rcases ho.2 with ⟨hv0, hn0⟩ | ⟨g, cap, cur, e1, _, _, hnc, _⟩
    · exact absurd (by rw [← hr.1]; exact hn0) h0
    · injection e1 with e2 e3 e4
      subst e2; subst e4
      obtain ⟨g2, o2, e5, hg, hc⟩ := hr.2.2 (by omega)
      injection e5 with e6
      have hln : (l.map bs).length = n := by rw [List.length_map, hr.1]
      have hmap : (l.map bs).map (fun x : ByteArray => x.data.toList) = l := by
        rw [List.map_map]
        have hid : (fun s : ByteArray => s.data.toList) ∘ bs = id := rfl
        rw [hid, List.map_id]
      have h := Tryz.strings_Join g 0 c (l.map bs) (bs sep) w (fun j x hx => by
          rw [List.getElem?_map] at hx
          have hj : j < l.length := by
            rcases Nat.lt_or_ge j l.length with h | h
            · exact h
            · rw [List.getElem?_eq_none h] at hx; cases hx
          rw [List.getElem?_eq_getElem hj] at hx
          injection hx with hx
          subst hx
          have := hc j _ (strs_get l j hj)
          injection e6 with e7 e8
          subst e7; subst e8
          exact this) (by injection e6 with e7; rw [e7]; exact hg) (by rw [hln]; omega) (by rw [hln]; rw [hr.1] at hnc; exact hnc) (by
          rw [hmap, bs_data]
          refine Nat.le_trans (join_len sep 1048576 l hv) ?_
          rw [hr.1]
          refine Nat.le_trans (Nat.mul_le_mul (show n ≤ 1048576 from hn) (show sep.length + 1048576 ≤ 2097152 by omega)) (by omega))
      rw [hln, hmap, bs_data] at h
      exact h

set_option maxHeartbeats 400000 in
theorem get_any (A : Option Addr) (n c : Nat) (l : List Fld) (name : List UInt8) (w : World) (hl : RdF w A n l) (hn : n ≤ 1048576) (hls : FlenS l) (hnm : name.length ≤ 1048576) :
    Calls Tryz.prog 37 #[.slice A n c, .string (bs name)] w fun e w' => e = .returned (.tuple #[.string (bs (Lib.join (valuesL l name) [44, 32])), .bool (!(valuesL l name).isEmpty)]) ∧ Below w.heap.size w w' := by
  have HV : Hid (∀ v ∈ valuesL l name, v.length ≤ 1048576) := Lib.hid fun v hv => values_each hls hv
  have HVl : Hid ((valuesL l name).length ≤ l.length) := Lib.hid (values_le l name)
  have HJ : Hid (∀ V, V = valuesL l name → Value.tuple #[.string (bs (Lib.join V [44, 32])), .bool (!V.isEmpty)] = .tuple #[.string (bs (Lib.join (valuesL l name) [44, 32])), .bool (!(valuesL l name).isEmpty)]) := Lib.hid fun V h => by rw [h]
  have hln := hl.1
  generalize Value.tuple #[.string (bs (Lib.join (valuesL l name) [44, 32])), .bool (!(valuesL l name).isEmpty)] = R at *
  go_enter Tryz.func37, Tryz.ntmps37
  go_wp2_with fail
  refine (values_own A n c l name w hl (by omega) hls.ok (by omega)).mono ?_
  rintro e w1 ⟨A1, n1, c1, rfl, hS, hb1⟩
  generalize valuesL l name = V at *
  have hrd := hS.rd
  have hnl : n1 ≤ 1048576 := by have := HVl.out; rw [hrd.1] at this; omega
  go_wp2_with fail
  refine (join_any A1 n1 c1 _ V [44, 32] w1 hS hnl HV.out (by simp)).mono ?_
  rintro e w2 ⟨rfl, hb2⟩
  have hb3 := bnext hb1 hb2 hb1.size
  have HJ2 := Lib.hid (HJ.out V rfl)
  have hlen := hrd.1
  have HE : Hid ((!V.isEmpty) = decide (0 < n1)) := Lib.hid (by
    rw [← hlen]
    cases V with
    | nil => rfl
    | cons x r => simp)
  go_wp2
  go_ret2
  exact ⟨by rw [← HJ2.out, HE.out]; rfl, hb3⟩
end Go.Proofs.YtfhkgbimnfjfhaaGreatDoor
set_option linter.unusedVariables false
set_option linter.unusedSimpArgs false
namespace Go.Proofs.YtfhkgbimnfjfhaaGreatDoor
namespace Ctl
abbrev getN : List UInt8 := [71, 69, 84]
abbrev authN : List UInt8 := [97, 117, 116, 104, 111, 114, 105, 122, 97, 116, 105, 111, 110]
abbrev AuthN : List UInt8 := [65, 117, 116, 104, 111, 114, 105, 122, 97, 116, 105, 111, 110]
abbrev rangeN : List UInt8 := [114, 97, 110, 103, 101]
abbrev RangeN : List UInt8 := [82, 97, 110, 103, 101]
abbrev expN : List UInt8 := [101, 120, 112, 105, 114, 101, 115]
abbrev ExpN : List UInt8 := [69, 120, 112, 105, 114, 101, 115]
abbrev varyN : List UInt8 := [118, 97, 114, 121]
abbrev VaryN : List UInt8 := [86, 97, 114, 121]
abbrev starN : List UInt8 := [42]
/-- Is a field of this name told? -/
def toldL (l : List Fld) (name : List UInt8) : Bool := !(valuesL l name).isEmpty
theorem told_name {l : List Fld} {a b : List UInt8} (h : fold a = fold b) : toldL l a = toldL l b := by unfold toldL; rw [valuesL_name h]
theorem has_name {l : List Fld} {a b x : List UInt8} (h : fold a = fold b) : hasL l a x = hasL l b x := by unfold hasL; rw [tokensL_name h]
def negL (st : Int) : Bool := st == 404 || (st == 405 || (st == 410 || (st == 414 || st == 501)))
def oneL (st : Int) : Bool := st == 200 || (st == 203 || (st == 300 || st == 301))
def twoL (st : Int) : Bool := st == 302 || st == 307
def keepL (st : Int) (ex : Bool) : Bool := oneL st || ((twoL st && ex) || negL st)
theorem keepL_eq (st : Int) (ex : Bool) : keepL st ex = if oneL st = true then true else if twoL st = true then ex else negL st := by
  unfold keepL
  cases h1 : oneL st
  · cases h2 : twoL st
    · rfl
    · have h3 : negL st = false := by
        unfold twoL at h2; unfold negL
        rw [Bool.or_eq_true, beq_iff_eq, beq_iff_eq] at h2
        rcases h2 with rfl | rfl <;> rfl
      rw [h3]; cases ex <;> rfl
  · rfl
def explL (d : Ct) (ls : List Fld) : Bool := decide (0 ≤ d.sMaxAge) || (decide (0 ≤ d.maxAge) || toldL ls expN)
/-- May the response be stored? -/
def storL (m : List UInt8) (lr : List Fld) (st : Int) (ls : List Fld) : Bool :=
  (m == getN) && (keepL st (explL (ctlL ls) ls) && (!(ctlL lr).noStore && (!(ctlL ls).noStore && (!(ctlL ls).priv &&
    (!(toldL lr authN && !((ctlL ls).pub || ((ctlL ls).must || decide (0 ≤ (ctlL ls).sMaxAge)))) &&
      (!(toldL lr rangeN && (st.tdiv 100 == 2)) && !hasL ls varyN starN))))))
theorem stor_inv {m : List UInt8} {lr : List Fld} {st : Int} {ls : List Fld} (h : storL m lr st ls = true) :
    (m == getN) = true ∧ (ctlL lr).noStore = false ∧ (ctlL ls).noStore = false ∧ (ctlL ls).priv = false ∧ st ≠ 206 ∧ st ≠ 304 ∧ 200 ≤ st := by
  unfold storL at h
  simp only [Bool.and_eq_true] at h
  obtain ⟨h1, h2, h3, h4, h5, -⟩ := h
  have hk : keepL st (explL (ctlL ls) ls) = true → st ≠ 206 ∧ st ≠ 304 ∧ 200 ≤ st := by
    intro h
    unfold keepL oneL twoL negL at h
    simp only [Bool.or_eq_true, Bool.and_eq_true, beq_iff_eq] at h
    omega
  refine ⟨h1, ?_, ?_, ?_, hk h2⟩
  · simpa using h3
  · simpa using h4
  · simpa using h5
theorem stor_one : storL getN [] 200 [] = true := by decide +kernel
end Ctl
theorem join_snoc {V : List (List UInt8)} {sep : List UInt8} {k : Nat} {x : List UInt8} (h : V[k]? = some x) : Lib.join (V.take (k + 1)) sep = (if k = 0 then [] else Lib.join (V.take k) sep ++ sep) ++ x := by
  cases V with
  | nil => simp at h
  | cons y r =>
    cases k with
    | zero =>
      simp at h; subst h
      simp [Lib.join_one]
    | succ k =>
      rw [List.take_succ_cons, List.take_succ_cons, Lib.join_cons, Lib.join_cons, Lib.joinTail_take_succ sep r k x (by simpa using h), if_neg (by omega)]
      simp [List.append_assoc]
end Go.Proofs.YtfhkgbimnfjfhaaGreatDoor
set_option linter.unusedVariables false
set_option linter.unusedSimpArgs false
namespace Go.Proofs.YtfhkgbimnfjfhaaGreatDoor
open Go.RowKit

set_option maxRecDepth 100000
theorem ret_tup {a b : Value} (h : a = b) : Ending.returned a = .returned b := by rw [h]
set_option maxHeartbeats 1000000 in
theorem getR_any (A : Option Addr) (n c : Nat) (l : List Fld) (name : List UInt8) (w : World) (hl : RdF w A n l) (hn : n ≤ 1048576) (hls : FlenS l) (hnm : name.length ≤ 1048576) :
    Calls Tryz.prog 39 #[.slice A n c, .string (bs name)] w fun e w' => e = .returned (.tuple #[.string (bs (Lib.join (valuesL l name) [44, 32])), .bool (!(valuesL l name).isEmpty)]) ∧ Below w.heap.size w w' := by
  have HV : Hid (∀ v ∈ valuesL l name, v.length ≤ 1048576) := Lib.hid fun v hv => values_each hls hv
  have HVl : Hid ((valuesL l name).length ≤ l.length) := Lib.hid (values_le l name)
  have HJ : Hid (∀ V, V = valuesL l name → Value.tuple #[.string (bs (Lib.join V [44, 32])), .bool (!V.isEmpty)] = .tuple #[.string (bs (Lib.join (valuesL l name) [44, 32])), .bool (!(valuesL l name).isEmpty)]) := Lib.hid fun V h => by rw [h]
  have hln := hl.1
  generalize Value.tuple #[.string (bs (Lib.join (valuesL l name) [44, 32])), .bool (!(valuesL l name).isEmpty)] = R at *
  go_enter Tryz.func39, Tryz.ntmps39
  go_wp2_with fail
  refine (valuesR_own A n c l name w hl (by omega) hls.ok (by omega)).mono ?_
  rintro e w1 ⟨A1, n1, c1, rfl, hS, hb1⟩
  generalize valuesL l name = V at *
  have hrd := hS.rd
  have hnl : n1 ≤ 1048576 := by have := HVl.out; rw [hrd.1] at this; omega
  have HJ2 := Lib.hid (HJ.out V rfl)
  have HE : Hid ((!V.isEmpty) = decide (0 < n1)) := Lib.hid (by
    rw [← hrd.1]
    cases V with
    | nil => rfl
    | cons x r => simp)
  have HL : Hid (∀ k, (Lib.join (V.take k) [44, 32]).length ≤ 1048576 * 1048578) := Lib.hid fun k => by
    refine Nat.le_trans (join_len [44, 32] 1048576 (V.take k) (fun x hx => HV.out x (List.mem_of_mem_take hx))) ?_
    have h1 : (V.take k).length ≤ 1048576 := by rw [List.length_take, hrd.1]; omega
    exact Nat.mul_le_mul h1 (by simp)
  have HT : Hid (V.take n1 = V) := Lib.hid (List.take_of_length_le (by rw [hrd.1]; exact Nat.le_refl _))
  have HV' := HV
  clear hS hl hls HJ HVl hln
  go_wp2
  go_loop [7, 8] (fun v t => ∃ k : Nat, k ≤ n1 ∧ t = .int .i64 k ∧ v = .string (bs (Lib.join (V.take k) [44, 32]))) (fun _ t => n1 - (intOf t).toNat)
  case atStart => exact ⟨0, by omega, rfl, rfl⟩
  case round =>
    obtain ⟨k, hk, rfl, rfl⟩ := hrel
    by_cases hlt : k < n1
    · obtain ⟨g, o, x, rfl, hg, HX, hc1⟩ := hrd.at_ hlt
      have HS := Lib.hid (join_snoc (sep := [44, 32]) HX.out)
      have hx1 : x.length ≤ 1048576 := HV.out x (mem_of_get? HX.out)
      have hx2 := HL.out k
      have hx3 := HL.out (k + 1)
      have HJ0 : Hid (k = 0 → Lib.join (List.take k V) [44, 32] = []) := Lib.hid (fun h => by subst h; rfl)
      generalize Lib.join (List.take k V) [44, 32] = J at *
      by_cases h0 : k = 0
      · subst h0
        simp only [Nat.add_zero] at hc1
        go_wp2
        go_round
        case rel => exact ⟨1, by omega, rfl, by rw [HS.out, HJ0.out rfl]; rfl⟩
        case measure => simp [intOf]; omega
      · have hk0 : 0 < k := by omega
        go_wp2
        go_round
        case rel => exact ⟨k + 1, by omega, by go_num, by rw [HS.out, if_neg h0, ← bs_append, ← bs_append]; rfl⟩
        case measure => simp [intOf]; omega
    · obtain rfl : k = n1 := by omega
      go_wp2
      go_ret2
      exact ⟨by rw [← HJ2.out, HE.out, HT.out]; rfl, hb1⟩
set_option maxHeartbeats 400000 in
theorem told_any (A : Option Addr) (n c : Nat) (l : List Fld) (name : List UInt8) (w : World) (hl : RdF w A n l) (hn : n ≤ 1048576) (hls : FlenS l) (hnm : name.length ≤ 1048576) :
    Calls Tryz.prog 26 #[.slice A n c, .string (bs name)] w fun e w' => e = .returned (.bool (Ctl.toldL l name)) ∧ Below w.heap.size w w' := by
  have hC := get_any A n c l name w hl hn hls hnm
  have HR : Hid ((!(valuesL l name).isEmpty) = Ctl.toldL l name) := Lib.hid rfl
  generalize (!(valuesL l name).isEmpty) = r at *
  generalize Lib.join (valuesL l name) [44, 32] = s at *
  go_enter Tryz.func26, Tryz.ntmps26
  go_wp2_with fail
  refine hC.mono ?_
  rintro e w1 ⟨rfl, hb1⟩
  go_wp2
  go_ret
  exact ⟨ret_bool HR.out, hb1⟩
set_option maxHeartbeats 400000 in
theorem hasR_any (A : Option Addr) (n c : Nat) (l : List Fld) (name : List UInt8) (w : World) (hl : RdF w A n l) (hn : n ≤ 1048576) (hls : FlenS l) (hnm : name.length ≤ 1048576) :
    Calls Tryz.prog 32 #[.slice A n c, .string (bs name)] w fun e w' => e = .returned (.bool (Ctl.toldL l name)) ∧ Below w.heap.size w w' := by
  have hC := getR_any A n c l name w hl hn hls hnm
  have HR : Hid ((!(valuesL l name).isEmpty) = Ctl.toldL l name) := Lib.hid rfl
  generalize (!(valuesL l name).isEmpty) = r at *
  generalize Lib.join (valuesL l name) [44, 32] = s at *
  go_enter Tryz.func32, Tryz.ntmps32
  go_wp2_with fail
  refine hC.mono ?_
  rintro e w1 ⟨rfl, hb1⟩
  go_wp2
  go_ret
  exact ⟨ret_bool HR.out, hb1⟩
end Go.Proofs.YtfhkgbimnfjfhaaGreatDoor
set_option linter.unusedVariables false
set_option linter.unusedSimpArgs false
namespace Go.Proofs.YtfhkgbimnfjfhaaGreatDoor
open Go.RowKit

set_option maxRecDepth 100000
theorem ieq {a b : Int} (h : a = b) : (a == b) = true := by simp [h]
theorem ine {a b : Int} (h : a ≠ b) : (a == b) = false := by simp [h]
set_option maxHeartbeats 400000 in
theorem negative_any (st : Int) (w : World) : Calls Tryz.prog 30 #[.int .i64 st] w fun e w' => e = .returned (.bool (Ctl.negL st)) ∧ w = w' := by
  have HV : Hid (Ctl.negL st = (st == 404 || (st == 405 || (st == 410 || (st == 414 || st == 501))))) := Lib.hid rfl
  generalize Ctl.negL st = R at *
  cases h1 : (st == 404)
  · cases h2 : (st == 405)
    · cases h3 : (st == 410)
      · cases h4 : (st == 414)
        · cases h5 : (st == 501)
          all_goals
            rw [h1, h2, h3, h4, h5] at HV
            go_enter Tryz.func30, Tryz.ntmps30
            go_wp2
            go_ret
            exact ⟨ret_bool HV.out.symm, rfl⟩
        · rw [h1, h2, h3, h4] at HV
          go_enter Tryz.func30, Tryz.ntmps30
          go_wp2
          go_ret
          exact ⟨ret_bool HV.out.symm, rfl⟩
      · rw [h1, h2, h3] at HV
        go_enter Tryz.func30, Tryz.ntmps30
        go_wp2
        go_ret
        exact ⟨ret_bool HV.out.symm, rfl⟩
    · rw [h1, h2] at HV
      go_enter Tryz.func30, Tryz.ntmps30
      go_wp2
      go_ret
      exact ⟨ret_bool HV.out.symm, rfl⟩
  · rw [h1] at HV
    go_enter Tryz.func30, Tryz.ntmps30
    go_wp2
    go_ret
    exact ⟨ret_bool HV.out.symm, rfl⟩
/-- A row of numbers. -/
def RdI (w : World) (A : Option Addr) (n : Nat) (l : List Int) : Prop := l.length = n ∧ Rd w 1 A n (l.map (Value.int .i64))
theorem RdI.at_ {w : World} {A : Option Addr} {n : Nat} {l : List Int} (h : RdI w A n l) {k : Nat} (hk : k < n) : ∃ g o x, A = some ⟨g, o, none⟩ ∧ g < w.heap.size ∧ Hid (l[k]? = some x) ∧ w.cell? ⟨g, o + k, none⟩ = some (.int .i64 x) := by
  obtain ⟨g, o, e, hg, hc⟩ := h.2.2 (by omega)
  have hk' : k < l.length := by rw [h.1]; exact hk
  refine ⟨g, o, l[k], e, hg, Lib.hid (List.getElem?_eq_getElem hk'), hc k _ (by simp [hk'])⟩
theorem RdI.lit (w : World) (l : List Int) (T : TypeId) : RdI (w.alloc (.cells (l.map (Value.int .i64)).toArray T)) (some ⟨w.heap.size, 0, none⟩) l.length l := by
  refine ⟨rfl, by simp, fun _ => ⟨w.heap.size, 0, rfl, by simp, fun j u hu => ?_⟩⟩
  rw [Nat.zero_add, cell_of_row _ _ _ _ T (0, 0) (heap_alloc_new w _)]
  simpa using hu
set_option maxHeartbeats 400000 in
theorem among_any (v : Int) (A : Option Addr) (n c : Nat) (l : List Int) (w : World) (hl : RdI w A n l) (hn : n ≤ 1048576) : Calls Tryz.prog 36 #[.int .i64 v, .slice A n c] w fun e w' => e = .returned (.bool (l.any (· == v))) ∧ w = w' := by
  have hln := hl.1
  have HC : Hid (∀ (k : Nat) x, l[k]? = some x → x = v → l.any (· == v) = true) := Lib.hid fun k x h e => List.any_eq_true.2 ⟨x, mem_of_get? h, by simp [e]⟩
  have HN : Hid ((∀ (k : Nat) x, k < n → l[k]? = some x → x ≠ v) → l.any (· == v) = false) := Lib.hid fun h => by
    rw [Bool.eq_false_iff]
    intro hm
    obtain ⟨x, hx, e⟩ := List.any_eq_true.1 hm
    obtain ⟨k, hk, e2⟩ := List.getElem_of_mem hx
    exact h k x (by omega) (by rw [List.getElem?_eq_getElem hk, e2]) (by simpa using e)
  generalize l.any (· == v) = R at *
  go_enter Tryz.func36, Tryz.ntmps36
  go_wp2
  go_loop [5] (fun t => ∃ k : Nat, k ≤ n ∧ t = .int .i64 k ∧ Hid (∀ (j : Nat) x, j < k → l[j]? = some x → x ≠ v)) (fun t => n - (intOf t).toNat)
  case atStart => exact ⟨0, by omega, rfl, Lib.hid fun j x h => by omega⟩
  case round =>
    obtain ⟨k, hk, rfl, HA⟩ := hrel
    by_cases hlt : k < n
    · obtain ⟨g, o, x, rfl, hg, HX, hc1⟩ := hl.at_ hlt
      by_cases hxw : x = v
      · have HR := Lib.hid (HC.out k x HX.out hxw)
        have hxx : (x == v) = true := ieq hxw
        clear hl hxw
        go_wp2
        go_ret
        exact ⟨ret_bool HR.out.symm, rfl⟩
      · have hne : (x == v) = false := ine hxw
        have HR : Hid (∀ (j : Nat) y, j < k + 1 → l[j]? = some y → y ≠ v) := Lib.hid fun j y hj hy => by
          by_cases h : j < k
          · exact HA.out j y h hy
          · obtain rfl : j = k := by omega
            rw [HX.out] at hy; cases hy; exact hxw
        clear hxw hl
        go_wp2
        go_round
        case rel => exact ⟨k + 1, by omega, by go_num, HR⟩
        case measure => simp [intOf]; omega
    · have HR := Lib.hid (HN.out fun j x hj hx => HA.out j x (by omega) hx)
      go_wp2
      go_ret
      exact ⟨ret_bool HR.out.symm, rfl⟩
end Go.Proofs.YtfhkgbimnfjfhaaGreatDoor
