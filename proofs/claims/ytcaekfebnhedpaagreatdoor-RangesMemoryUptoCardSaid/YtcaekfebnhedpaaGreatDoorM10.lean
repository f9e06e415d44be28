/- Joined texts: ranges.number and the reference's; Slices of spans, read and owned; an append onto one; (every seat) The library's variable MaxLen holds some int; strings.Cut at one byte; The library's HasPrefix, HasSuffix, CutPrefix, CutSuffix, walked; CopyFields: the list as new memory; Comparison of two fields by Go's '==' and '!=': name and value. The conditions stand in each line. -/
import Derived.Test.YtcaekfebnhedpaaGreatDoorChecked
import Derived.Test.YtcaekfebnhedpaaGreatDoorM1
import Derived.Test.YtcaekfebnhedpaaGreatDoorM2
import Derived.Test.YtcaekfebnhedpaaGreatDoorM3
import Derived.Test.YtcaekfebnhedpaaGreatDoorM4
import Derived.Test.YtcaekfebnhedpaaGreatDoorM6
import Derived.Test.YtcaekfebnhedpaaGreatDoorM9
import Derived.Lib.SlTrimSet
import Derived.Deep.LoopGhost
import Derived.Deep.Cut
import Derived.Deep.DeepCutAuto
import Derived.Shelf.Vars
set_option linter.unusedVariables false
set_option linter.unusedSimpArgs false
namespace Go.Proofs.YtcaekfebnhedpaaGreatDoor
open Go.RowKit

set_option maxRecDepth 100000
theorem trimG_any (s : List UInt8) (w : World) (hs : s.length ≤ 4398046511104) :
    Calls Tryz.prog 75 #[.string (bs s), .string (bs digS)] w fun e w' => e = .returned (.string (bs (Lib.trimS s digS))) ∧ Below w.heap.size w w' :=
  Tryz.strings_Trim_set (bs s) (bs digS) w (by simp; omega) (by decide) (ascii_of_all (by decide))
def numV (s : List UInt8) : Value := .tuple #[.int .i64 (if numL s < 0 then 0 else numL s), .bool (decide (0 ≤ numL s))]
theorem numV_bad {s : List UInt8} (h : numL s = -1) : numV s = .tuple #[.int .i64 0, .bool false] := by unfold numV; rw [h]; rfl
theorem numV_good {s : List UInt8} {n : Nat} (h : numL s = (n : Int)) : numV s = .tuple #[.int .i64 (n : Int), .bool true] := by
  unfold numV; rw [h, if_neg (by omega), decide_eq_true (show (0 : Int) ≤ (n : Int) by omega)]
set_option maxHeartbeats 1000000 in
theorem number_any (s : List UInt8) (w : World) (hs : s.length ≤ 4398046511104) :
    Calls Tryz.prog 53 #[.string (bs s)] w fun e w' => e = .returned (numV s) ∧ Below w.heap.size w w' := by
  have HD : Hid (digS = [48, 49, 50, 51, 52, 53, 54, 55, 56, 57]) := Lib.hid rfl
  by_cases h0 : s = []
  · subst h0
    have HR := Lib.hid (numV_bad numL_nil)
    generalize numV [] = R at *
    go_enter Tryz.func53, Tryz.ntmps53
    go_wp2
    go_ret2
    exact ⟨by rw [HR.out]; rfl, Below.refl _ _⟩
  have he : s.isEmpty = false := by cases s with
    | nil => exact absurd rfl h0
    | cons a b => rfl
  by_cases hlen : 18 < s.length
  · have HR := Lib.hid (numV_bad (numL_bad_len hlen))
    generalize numV s = R at *
    go_enter Tryz.func53, Tryz.ntmps53
    go_wp2
    go_ret2
    exact ⟨by rw [HR.out]; rfl, Below.refl _ _⟩
  have hT := trimG_any s w hs
  rw [HD.out] at hT
  cases hd : s.all digB with
  | false =>
    have hp : (Lib.trimS s [48, 49, 50, 51, 52, 53, 54, 55, 56, 57]).isEmpty = false := by
      rw [← HD.out]
      have := trimDig_some hd
      cases hp : Lib.trimS s digS with
      | nil => exact absurd hp this
      | cons _ _ => rfl
    have HR := Lib.hid (numV_bad (numL_bad hd))
    generalize numV s = R at *
    generalize Lib.trimS s [48, 49, 50, 51, 52, 53, 54, 55, 56, 57] = p at *
    clear hd h0
    go_enter Tryz.func53, Tryz.ntmps53
    go_wp2_with fail
    refine hT.mono ?_
    rintro e w1 ⟨rfl, hb1⟩
    go_wp2
    go_ret2
    exact ⟨by rw [HR.out]; rfl, hb1⟩
  | true =>
    have hp : Lib.trimS s [48, 49, 50, 51, 52, 53, 54, 55, 56, 57] = [] := by rw [← HD.out]; exact trimDig_nil hd
    rw [hp] at hT
    obtain ⟨m0, hm, hm2, hdf, hat⟩ := numL_good hd h0 (by omega)
    have HAt := Lib.hid hat
    have HR := Lib.hid (numV_good hm)
    have hm3 : (m0 : Int) < 1000000000000000000 := by omega
    have hm4 : 0 ≤ (m0 : Int) := by omega
    generalize numV s = R at *
    clear hp hd h0 hm hm2 hdf hat
    generalize (m0 : Int) = m at *
    go_enter Tryz.func53, Tryz.ntmps53
    go_wp2_with fail
    refine hT.mono ?_
    rintro e w1 ⟨rfl, hb1⟩
    go_wp2_with fail
    refine (Tryz.strconv_Atoi (bs s) m (by simp; omega) HAt.out _).mono ?_
    rintro e w4 ⟨rfl, tt, rfl⟩
    have hb4 := bytesWorld_below w1 5 tt
    generalize Lib.bytesWorld w1 5 tt = w4 at *
    go_wp2
    go_ret2
    exact ⟨by rw [HR.out]; rfl, bnext hb1 hb4 hb1.size⟩
/-- The number of the first k digits. -/
def numTo (s : List UInt8) (k : Nat) : Option Nat := Lib.decFrom 0 (s.take k)
set_option maxHeartbeats 1000000 in
theorem numG_any (s : List UInt8) (w : World) :
    Calls Tryz.prog 34 #[.string (bs s)] w fun e w' => e = .returned (.int .i64 (numL s)) ∧ w = w' := by
  by_cases h1 : s.length < 1
  · have hs : s = [] := List.eq_nil_of_length_eq_zero (by omega)
    subst hs
    have HR : Hid (numL [] = -1) := Lib.hid rfl
    go_enter Tryz.func34, Tryz.ntmps34
    go_wp2
    go_ret
    exact ⟨by rw [HR.out]; rfl, rfl⟩
  by_cases h2 : 18 < s.length
  · have HR := Lib.hid (numL_bad_len h2)
    go_enter Tryz.func34, Tryz.ntmps34
    go_wp2
    go_ret
    exact ⟨by rw [HR.out]; rfl, rfl⟩
  have HB : Hid (∀ (k : Nat) (b : UInt8), s[k]? = some b → digB b = false → numL s = -1) := Lib.hid fun k b h hb => by
    apply numL_bad
    rw [← Bool.not_eq_true, List.all_eq_true]
    intro ha
    have := ha b (mem_of_get? h)
    rw [hb] at this; cases this
  have HG : Hid (∀ v : Int, (∃ n : Nat, v = n ∧ Lib.decFrom 0 (s.take s.length) = some n) → (s.take s.length).all digB = true → numL s = v) := Lib.hid fun v h ha => by
    obtain ⟨n, rfl, e⟩ := h
    rw [List.take_length] at e ha
    obtain ⟨m, h3, _, h4, _⟩ := numL_good ha (by rintro rfl; simp at h1) (by omega)
    rw [h4] at e; cases e; exact h3
  have HP : Hid (∀ k, k < 18 → (10 : Nat) ^ k ≤ 100000000000000000) := Lib.hid fun k hk => by
    have h17 : (10 : Nat) ^ k ≤ 10 ^ 17 := Nat.pow_le_pow_right (by omega) (by omega)
    have e17 : (10 : Nat) ^ 17 = 100000000000000000 := by simp
    rwa [e17] at h17
  go_enter Tryz.func34, Tryz.ntmps34
  go_wp2
  go_loop [3, 4] (fun v t => ∃ (k : Nat) (x : Int), k ≤ s.length ∧ t = .int .i64 k ∧ v = .int .i64 x ∧ 0 ≤ x ∧ x < 1000000000000000000 ∧ Hid ((s.take k).all digB = true) ∧ Hid (∃ n : Nat, x = n ∧ Lib.decFrom 0 (s.take k) = some n ∧ n < 10 ^ k)) (fun _ t => s.length - (intOf t).toNat)
  case atStart => exact ⟨0, 0, by omega, rfl, rfl, by omega, by omega, Lib.hid rfl, Lib.hid ⟨0, rfl, rfl, by simp⟩⟩
  case round =>
    obtain ⟨k, x, hk, rfl, rfl, hx0, hx1, HA, HX⟩ := hrel
    by_cases hlt : k < s.length
    · cases hd : digB s[k]
      · have HR := Lib.hid (HB.out k _ (List.getElem?_eq_getElem hlt) hd)
        have hd2 := of_decide_eq_false hd
        clear hd HB HG HA HX HP
        by_cases h48 : s[k].toNat < 48
        · have g1 : ((s[k].toNat : Int) < 48) := by omega
          go_wp2
          go_ret
          exact ⟨by rw [HR.out]; rfl, rfl⟩
        · have g1 : ¬ ((s[k].toNat : Int) < 48) := by omega
          have g2 : ((57 : Int) < (s[k].toNat : Int)) := by omega
          go_wp2
          go_ret
          exact ⟨by rw [HR.out]; rfl, rfl⟩
      · have hd2 := of_decide_eq_true hd
        have hx17 : x < 100000000000000000 := by
          obtain ⟨n, rfl, _, hn⟩ := HX.out
          have := HP.out k (by omega)
          omega
        have HA2 : Hid ((s.take (k + 1)).all digB = true) := Lib.hid (by rw [all_snoc digB s k hlt, HA.out, hd]; rfl)
        have HX2 : Hid (∃ n : Nat, x * 10 + (s[k].toNat : Int) - 48 = n ∧ Lib.decFrom 0 (s.take (k + 1)) = some n ∧ n < 10 ^ (k + 1)) := Lib.hid (by
          obtain ⟨n, e, h3, h4⟩ := HX.out
          refine ⟨n * 10 + (s[k].toNat - 48), by omega, Lib.decFrom_take s k 0 n s[k] _ h3 (List.getElem?_eq_getElem hlt) (digitVal_yes hd), ?_⟩
          rw [Nat.pow_succ]; omega)
        have g1 : ¬ ((s[k].toNat : Int) < 48) := by omega
        have g2 : ¬ ((57 : Int) < (s[k].toNat : Int)) := by omega
        obtain ⟨cv, hcv⟩ : ∃ cv : Int, cv = (s[k].toNat : Int) := ⟨_, rfl⟩
        clear hd HB HG HA HX HP
        go_wp2
        go_round
        case rel => exact ⟨k + 1, x * 10 + (s[k].toNat : Int) - 48, by omega, by go_num, by go_num, by omega, by omega, HA2, HX2⟩
        case measure => simp [intOf]; omega
    · obtain rfl : k = s.length := by omega
      have HR := Lib.hid (HG.out x (by obtain ⟨n, e, h3, _⟩ := HX.out; exact ⟨n, e, h3⟩) HA.out)
      go_wp2
      go_ret
      exact ⟨by rw [HR.out]; rfl, rfl⟩
end Go.Proofs.YtcaekfebnhedpaaGreatDoor
set_option linter.unusedVariables false
set_option linter.unusedSimpArgs false
namespace Go.Proofs.YtcaekfebnhedpaaGreatDoor
open Go.RowKit

set_option maxRecDepth 100000
theorem spn_info : (Tryz.prog.info? 43).map (fun i => (i.zero, i.size, i.bytes)) = some (some (.agg #[.int .i64 0, .int .i64 0]), 2, 16) := by kernel_rfl
abbrev Spn := Int × Int
def scells : List Spn → List Value
  | [] => []
  | f :: r => .int .i64 f.1 :: .int .i64 f.2 :: scells r
theorem scells_append (l m : List Spn) : scells (l ++ m) = scells l ++ scells m := by
  induction l with
  | nil => rfl
  | cons f r ih => simp [scells, ih]
theorem scells_get1 (l : List Spn) (k : Nat) (h : k < l.length) : (scells l)[2 * k]? = some (.int .i64 l[k].1) := by
  induction l generalizing k with
  | nil => simp at h
  | cons f r ih =>
    cases k with
    | zero => rfl
    | succ k => rw [show 2 * (k + 1) = 2 * k + 1 + 1 from by omega]; simp [scells]; exact ih k (by simpa using h)
theorem scells_get2 (l : List Spn) (k : Nat) (h : k < l.length) : (scells l)[2 * k + 1]? = some (.int .i64 l[k].2) := by
  induction l generalizing k with
  | nil => simp at h
  | cons f r ih =>
    cases k with
    | zero => rfl
    | succ k => rw [show 2 * (k + 1) + 1 = 2 * k + 1 + 1 + 1 from by omega]; simp [scells]; exact ih k (by simpa using h)
theorem scells_one (l : List Spn) : ∀ u ∈ scells l, u.oneCell' = true := by
  induction l with
  | nil => intro u hu; simp [scells] at hu
  | cons f r ih => intro u hu; simp only [scells, List.mem_cons] at hu; rcases hu with rfl | rfl | hu; rfl; rfl; exact ih u hu
def RdP (w : World) (A : Option Addr) (n : Nat) (l : List Spn) : Prop := l.length = n ∧ Rd w 2 A n (scells l)
theorem RdP.step {w w' : World} {n : Nat} {A : Option Addr} {l : List Spn} (h : RdP w A n l) (hb : Below w.heap.size w w') : RdP w' A n l := ⟨h.1, h.2.step hb⟩
theorem RdP.nil (w : World) (A : Option Addr) : RdP w A 0 [] := ⟨rfl, Rd.nil w 2 A⟩
theorem RdP.at_ {w : World} {n : Nat} {A : Option Addr} {l : List Spn} (h : RdP w A n l) {k : Nat} (hk : k < n) : ∃ g o x y, A = some ⟨g, o, none⟩ ∧ g < w.heap.size ∧ Hid (l[k]? = some (x, y)) ∧ w.cell? ⟨g, o + k * 2, none⟩ = some (.int .i64 x) ∧ w.cell? ⟨g, o + k * 2 + 1, none⟩ = some (.int .i64 y) := by
  obtain ⟨g, o, e, hg, hc⟩ := h.2.2 (by omega)
  have hk' : k < l.length := by rw [h.1]; exact hk
  refine ⟨g, o, l[k].1, l[k].2, e, hg, Lib.hid (List.getElem?_eq_getElem hk'), ?_, ?_⟩
  · rw [Nat.mul_comm]; exact hc _ _ (scells_get1 l k hk')
  · rw [Nat.mul_comm, Nat.add_assoc]; exact hc _ _ (scells_get2 l k hk')
def OwnP (w : World) (B : Nat) (v : Value) (l : List Spn) : Prop := w.ownsRow B 43 2 v l.length (scells l)
theorem OwnP.rd {w : World} {B n c : Nat} {A : Option Addr} {l : List Spn} (h : OwnP w B (.slice A n c) l) : RdP w A n l := by
  have h' : w.ownsRow B 43 2 (.slice A n c) l.length (scells l) := h
  obtain ⟨A', c', e⟩ := own_slice h'
  injection e with e1 e2 e3
  subst e1 e2
  exact ⟨rfl, Rd.of_own h'⟩
theorem OwnP.nil (w : World) (B : Nat) : OwnP w B (.slice none 0 0) [] := World.ownsRow_nil w B _ 2
theorem OwnP.made (w : World) : OwnP (w.alloc (.cells #[] 43)) w.heap.size (.slice (some ⟨w.heap.size, 0, none⟩) 0 0) [] := own_made0 w _ 2 #[] rfl
theorem OwnP.step {w w' : World} {B : Nat} {v : Value} {l : List Spn} (h : OwnP w B v l) (hb : Below w.heap.size w w') : OwnP w' B v l := own_step h hb
theorem OwnP.mono {w : World} {B B' : Nat} {v : Value} {l : List Spn} (h : OwnP w B v l) (hb : B' ≤ B) : OwnP w B' v l := own_mono h hb
section
variable {w : World} {ops : Array Oper} {rest : List Oper} {o : Oper} {a : Act} {Q : Exit → Act → World → Prop}
theorem wp_appP (hgd : o.guard = none) (s x : Operand) (ho : o.op = .call { callee := .builtin .append, args := #[s, x], argTypes := #[23, 23] })
    (base : Nat) (v : Value) (l : List Spn) (hs : a.eval s = v) (hown : OwnP w base v l) (A : Option Addr) (m c : Nat) (news : List Spn) (hx : a.eval x = .slice A m c) (hr : RdP w A m news)
    (hbytes : (l.length + m) * 16 ≤ 140737488355328) (hbase : base ≤ w.heap.size)
    (h : ∀ A' n' c' w', OwnP w' base (.slice A' n' c') (l ++ news) → Below base w w' → Hid (n' = l.length + m) → wpList Tryz.prog ops Q rest (a.put o.dst (.slice A' n' c')) w') : wpList Tryz.prog ops Q (o :: rest) a w := by
  obtain ⟨i0, hi, hz0, hz1, hz2⟩ := info_parts spn_info
  refine wpList_app Tryz.underlying23 hi hz0 hz1 hz2 rfl (by omega) (by omega) hgd s x ho base v l.length (scells l) hs hown A m c (scells news) hx hr.2 (scells_one _) hbytes hbase fun A' c' w' h1 h2 => h A' _ c' w' ?_ h2 (Lib.hid rfl)
  unfold OwnP
  rw [List.length_append, hr.1, scells_append]
  exact h1
end
theorem one_rdP (w : World) (x y : Int) (t : TypeId) : RdP (w.alloc (.cells #[.int .i64 x, .int .i64 y] t)) (some ⟨w.heap.size, 0, none⟩) 1 [(x, y)] := ⟨rfl, cell2_rd w _ _ t⟩
theorem one_rdP' (w : World) (x y : Int) (t : TypeId) (k : Nat) (hk : k = w.heap.size) : RdP (w.alloc (.cells #[.int .i64 x, .int .i64 y] t)) (some ⟨k, 0, none⟩) 1 [(x, y)] := by subst hk; exact one_rdP w x y t
end Go.Proofs.YtcaekfebnhedpaaGreatDoor
set_option linter.unusedVariables false
set_option linter.unusedSimpArgs false
namespace Go.Proofs.YtcaekfebnhedpaaGreatDoor
open Go.RowKit

set_option maxRecDepth 100000
/-- The library's variable holds some int. -/
def MaxL (w : World) : Prop := ∃ m : Int, w.cell? ⟨0, 0, none⟩ = some (.int .i64 m)
theorem maxl_b {w w' : World} (h : MaxL w) (hb : Below w.heap.size w w') : MaxL w' := by
  obtain ⟨m, hm⟩ := h
  exact ⟨m, (World.cell?_of_block (hb.block _ (World.block_lt_of_cell? w _ hm))).trans hm⟩
theorem maxl_of {W : World} (h : W.ShapedOpen Tryz.prog) : MaxL W := cell_of_shapedOpen_int (k := .i64) h (of_decide_eq_true (by kernel_rfl)) (t := 3) (zero := #[.int .i64 0]) (by kernel_rfl) rfl (by kernel_rfl) (by kernel_rfl) Tryz.underlying3
theorem cut_any (s : List UInt8) (c : UInt8) (w : World) (hM : MaxL w) (hs : s.length ≤ 1073741824) :
    Calls Tryz.prog 52 #[.string (bs s), .string ⟨#[c]⟩] w fun e w' => e = .returned (.tuple #[.string (bs (Ur.cutA c s)), .string (bs (Ur.cutB c s)), .bool (Ur.hasC c s)]) ∧ Below w.heap.size w w' := by
  obtain ⟨m, hm⟩ := hM
  refine (Tryz.strings_Cut (bs s) ⟨#[c]⟩ m w (by simp; omega) hm).mono fun e w' h => ⟨?_, ?_⟩
  · have h1 := h.1
    rw [show (ByteArray.mk #[c]).data.toList = [c] from rfl, bs_data, Ur.lib_cut] at h1
    exact h1
  · obtain ⟨n, h2⟩ := h.2
    rw [h2]; exact below_drewN (Below.refl _ _) n
end Go.Proofs.YtcaekfebnhedpaaGreatDoor
set_option linter.unusedVariables false
set_option linter.unusedSimpArgs false
namespace Go.Proofs.YtcaekfebnhedpaaGreatDoor
open Go.RowKit

theorem pre_short {p s : List UInt8} (h : ¬ p.length ≤ s.length) : preB p s = false := by
  rw [Bool.eq_false_iff]; intro hp; exact h (preB_len hp)
theorem suf_short {p s : List UInt8} (h : ¬ p.length ≤ s.length) : sufB p s = false := by
  rw [Bool.eq_false_iff]; intro hp; exact h (sufB_len hp)
set_option maxHeartbeats 400000 in
theorem hasPrefix_any (s p : List UInt8) (w : World) (hs : s.length ≤ 140737488355328) (hp : p.length ≤ 140737488355328) :
    Calls Tryz.prog 151 #[.string (bs s), .string (bs p)] w fun e w' => e = .returned (.bool (preB p s)) ∧ w = w' := by
  go_enter Tryz.func151, Tryz.ntmps151
  go_wp2
  · go_ret
    exact ⟨ret_bool rfl, rfl⟩
  · go_ret
    exact ⟨ret_bool (pre_short ‹_›).symm, rfl⟩

set_option maxHeartbeats 400000 in
theorem hasSuffix_any (s p : List UInt8) (w : World) (hs : s.length ≤ 140737488355328) (hp : p.length ≤ 140737488355328) :
    Calls Tryz.prog 170 #[.string (bs s), .string (bs p)] w fun e w' => e = .returned (.bool (sufB p s)) ∧ w = w' := by
  go_enter Tryz.func170, Tryz.ntmps170
  go_wp2
  · go_ret
    exact ⟨ret_bool rfl, rfl⟩
  · go_ret
    exact ⟨ret_bool (suf_short ‹_›).symm, rfl⟩

set_option maxHeartbeats 400000 in
theorem lcutPrefix_any (s p : List UInt8) (w : World) (hs : s.length ≤ 140737488355328) (hp : p.length ≤ 140737488355328) :
    Calls Tryz.prog 147 #[.string (bs s), .string (bs p)] w fun e w' => e = .returned (.tuple #[.string (bs (cutP p s)), .bool (preB p s)]) ∧ w = w' := by
  have hl := @preB_len p s
  unfold cutP
  by_cases h : preB p s = true
  · have hl' := hl h
    rw [if_pos h]
    go_enter Tryz.func147, Tryz.ntmps147
    go_wp2_with (go_at_call 151; refine (hasPrefix_any _ _ _ hs hp).mono ?_; rintro e w' ⟨rfl, rfl⟩)
    go_ret2
    exact ⟨by simp [h], rfl⟩
  · have h' : preB p s = false := by simpa using h
    rw [if_neg h]
    go_enter Tryz.func147, Tryz.ntmps147
    go_wp2_with (go_at_call 151; refine (hasPrefix_any _ _ _ hs hp).mono ?_; rintro e w' ⟨rfl, rfl⟩)
    go_ret2
    exact ⟨by simp [h'], rfl⟩
set_option maxHeartbeats 400000 in
theorem lcutSuffix_any (s p : List UInt8) (w : World) (hs : s.length ≤ 140737488355328) (hp : p.length ≤ 140737488355328) :
    Calls Tryz.prog 152 #[.string (bs s), .string (bs p)] w fun e w' => e = .returned (.tuple #[.string (bs (cutS p s)), .bool (sufB p s)]) ∧ w = w' := by
  have hl := @sufB_len p s
  unfold cutS
  by_cases h : sufB p s = true
  · have hl' := hl h
    rw [if_pos h]
    go_enter Tryz.func152, Tryz.ntmps152
    go_wp2_with (go_at_call 170; refine (hasSuffix_any _ _ _ hs hp).mono ?_; rintro e w' ⟨rfl, rfl⟩)
    go_ret2
    exact ⟨by simp [h], rfl⟩
  · have h' : sufB p s = false := by simpa using h
    rw [if_neg h]
    go_enter Tryz.func152, Tryz.ntmps152
    go_wp2_with (go_at_call 170; refine (hasSuffix_any _ _ _ hs hp).mono ?_; rintro e w' ⟨rfl, rfl⟩)
    go_ret2
    exact ⟨by simp [h'], rfl⟩
set_option maxHeartbeats 400000 in
theorem cutSuffix_any (s p : List UInt8) (w : World) (hs : s.length ≤ 140737488355328) (hp : p.length ≤ 140737488355328) :
    Calls Tryz.prog 115 #[.string (bs s), .string (bs p)] w fun e w' => e = .returned (.tuple #[.string (bs (cutS p s)), .bool (sufB p s)]) ∧ w = w' := by
  go_enter Tryz.func115, Tryz.ntmps115
  go_wp2_with (go_at_call 152; refine (lcutSuffix_any _ _ _ hs hp).mono ?_; rintro e w' ⟨rfl, rfl⟩)
  go_ret2
  exact ⟨rfl, rfl⟩
set_option maxHeartbeats 400000 in
theorem cutPrefix_any (s p : List UInt8) (w : World) (hs : s.length ≤ 140737488355328) (hp : p.length ≤ 140737488355328) :
    Calls Tryz.prog 111 #[.string (bs s), .string (bs p)] w fun e w' => e = .returned (.tuple #[.string (bs (cutP p s)), .bool (preB p s)]) ∧ w = w' := by
  go_enter Tryz.func111, Tryz.ntmps111
  go_wp2_with (go_at_call 147; refine (lcutPrefix_any _ _ _ hs hp).mono ?_; rintro e w' ⟨rfl, rfl⟩)
  go_ret2
  exact ⟨rfl, rfl⟩
set_option maxHeartbeats 400000 in
theorem shasPrefix_any (s p : List UInt8) (w : World) (hs : s.length ≤ 140737488355328) (hp : p.length ≤ 140737488355328) :
    Calls Tryz.prog 114 #[.string (bs s), .string (bs p)] w fun e w' => e = .returned (.bool (preB p s)) ∧ w = w' := by
  go_enter Tryz.func114, Tryz.ntmps114
  go_wp2_with (go_at_call 151; refine (hasPrefix_any _ _ _ hs hp).mono ?_; rintro e w' ⟨rfl, rfl⟩)
  go_ret
  exact ⟨rfl, rfl⟩

end Go.Proofs.YtcaekfebnhedpaaGreatDoor
set_option linter.unusedVariables false
set_option linter.unusedSimpArgs false
namespace Go.Proofs.YtcaekfebnhedpaaGreatDoor
open Go.RowKit

set_option maxHeartbeats 400000 in
theorem copyFields_own (A : Option Addr) (n c : Nat) (l : List Fld) (w : World) (hl : RdF w A n l) (hn : n * 32 ≤ 140737488355328) :
    Calls Tryz.prog 14 #[.slice A n c] w fun e w' => ∃ A' n' c', e = .returned (.slice A' n' c') ∧ OwnF w' w.heap.size (.slice A' n' c') l ∧ Below w.heap.size w w' := by
  go_enter Tryz.func14, Tryz.ntmps14
  go_wp2_with
    (at_builtin
     refine wp_appF rfl (.tmp 5) (.tmp 6) rfl w.heap.size (.slice (some ⟨w.heap.size, 0, none⟩) 0 0) [] rfl (OwnF.made w) A n c l rfl ?hr ?hby ?hbase ?_
     case hr => exact hl.step (alloc_below _ _)
     case hby => simp; omega
     case hbase => simp
     intro A1 n1 c1 w1 hown1 hb1 hn1)
  go_ret
  exact ⟨A1, n1, c1, rfl, hown1, (alloc_below _ _).trans hb1⟩
theorem copyFields_any (A : Option Addr) (n c : Nat) (l : List Fld) (w : World) (hl : RdF w A n l) (hn : n * 32 ≤ 140737488355328) :
    Calls Tryz.prog 14 #[.slice A n c] w fun e w' => FldsOut w l e w' :=
  (copyFields_own A n c l w hl hn).mono fun e w' ⟨A', n', c', he, ho, hb⟩ => ⟨A', n', c', he, ho.rd, hb⟩
end Go.Proofs.YtcaekfebnhedpaaGreatDoor
set_option linter.unusedVariables false
set_option linter.unusedSimpArgs false
namespace Go.Proofs.YtcaekfebnhedpaaGreatDoor
open Go.RowKit

theorem fld_cells : (Tryz.prog.fieldsOf 46).toList.map (fun f => (f.name, f.type, f.offset)) = [("Name", 9, 0), ("Value", 9, 1)] := by kernel_rfl
theorem neq_fld (x1 x2 y1 y2 : List UInt8) (w : World) : (binOp .neq 46 (.agg #[.string (bs x1), .string (bs x2)]) (.agg #[.string (bs y1), .string (bs y2)])).run Tryz.prog w = .ok (.bool (!((x1 == y1) && (x2 == y2)))) w := by
  rw [run_neq_struct]
  have hs := run_equalIn_struct (P := Tryz.prog) w 9999 46 #[.string (bs x1), .string (bs x2)] #[.string (bs y1), .string (bs y2)] (by kernel_rfl) (by kernel_rfl)
  rw [hs]
  have hf := fld_cells
  match h : (Tryz.prog.fieldsOf 46).toList with
  | [] => rw [h] at hf; simp at hf
  | [_] => rw [h] at hf; simp at hf
  | [f, g] =>
    rw [h] at hf
    simp at hf
    obtain ⟨⟨f1, f2, f3⟩, g1, g2, g3⟩ := hf
    simp [Op.eqFields, f1, f2, f3, g1, g2, g3, go_sem, Tryz.underlying9]
    by_cases e1 : x1 = y1 <;> by_cases e2 : x2 = y2 <;> simp [e1, e2]
  | _ :: _ :: _ :: _ => rw [h] at hf; simp at hf
theorem eqg_fld (w : World) (x y : Operand) (xs ys : Array Value) : (eqGuard .neq 46 x y (.agg xs) (.agg ys)).run Tryz.prog w = .ok () w := run_eqGuard_agg w _ _ _ _ _ _ (by kernel_rfl)
end Go.Proofs.YtcaekfebnhedpaaGreatDoor
