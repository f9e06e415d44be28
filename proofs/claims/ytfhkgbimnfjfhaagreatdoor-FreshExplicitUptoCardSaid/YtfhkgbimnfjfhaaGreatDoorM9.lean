/- Joined texts: Cache-Control in plain Lean: what stands in quotes, seconds, directives; fields.is and the closures of fields.Without; slices.IndexFunc and ContainsFunc at texts, whatever predicate; append onto a row of the call's own beside another slice that lies elsewhere: that one reads as it did; The map of a Cache-Control's first directives, in memory. The conditions stand in each line. The conditions stand in each line. -/
import Derived.Test.YtfhkgbimnfjfhaaGreatDoorChecked
import Derived.Test.YtfhkgbimnfjfhaaGreatDoorM2
import Derived.Test.YtfhkgbimnfjfhaaGreatDoorM3
import Derived.Test.YtfhkgbimnfjfhaaGreatDoorM4
import Derived.Test.YtfhkgbimnfjfhaaGreatDoorM8
import Derived.Deep.Cut
import Derived.Deep.DeepCutAuto
import Derived.Maps.Own
import Derived.Maps.OwnSet
import Derived.Maps.Views
import Derived.Lib.Builder
set_option linter.unusedVariables false
set_option linter.unusedSimpArgs false
namespace Go.Proofs.YtfhkgbimnfjfhaaGreatDoor
namespace Ctl
/-- A byte that may stand in a text: a blank, a sign that shows, or what is beyond ASCII. -/
def txt (c : UInt8) : Bool := c == 9 || (decide (32 ≤ c.toNat) && !(c == 127))
/-- What stands in quotes, behind the first quote. -/
def uq : List UInt8 → Option (List UInt8)
  | [] => none
  | [c] => if c = 34 then some [] else none
  | [c, d] => if c = 34 then none else if c = 92 then none else if txt c = true then (if d = 34 then some [c] else none) else none
  | c :: d :: e :: r => if c = 34 then none else if c = 92 then (if txt d = true then (uq (e :: r)).map (d :: ·) else none) else if txt c = true then (uq (d :: e :: r)).map (c :: ·) else none
/-- The document's: what stands between the first quote and the last. -/
def rq : List UInt8 → Option (List UInt8)
  | [] => some []
  | [c] => if c = 92 then none else if c = 34 then none else if txt c = true then some [c] else none
  | c :: d :: r => if c = 92 then (if txt d = true then (rq r).map (d :: ·) else none) else if c = 34 then none else if txt c = true then (rq (d :: r)).map (c :: ·) else none
theorem uq_end : ∀ inn : List UInt8, uq (inn ++ [34]) = rq inn
  | [] => rfl
  | [c] => by
    show uq [c, 34] = rq [c]
    unfold uq rq
    by_cases h1 : c = 34
    · subst h1; rfl
    · by_cases h2 : c = 92
      · subst h2; rfl
      · simp [h1, h2]
  | [c, d] => by
    show uq [c, d, 34] = rq [c, d]
    rw [uq, rq]
    by_cases h1 : c = 34
    · subst h1; rfl
    · by_cases h2 : c = 92
      · subst h2; rfl
      · rw [if_neg h1, if_neg h2, if_neg h2, if_neg h1]
        rw [show [d, (34 : UInt8)] = [d] ++ [34] from rfl, uq_end [d]]
  | c :: d :: e :: r => by
    show uq (c :: d :: e :: (r ++ [34])) = rq (c :: d :: e :: r)
    rw [uq, rq]
    by_cases h1 : c = 34
    · subst h1; rfl
    · by_cases h2 : c = 92
      · subst h2
        rw [if_neg (by decide), if_pos rfl, if_pos rfl, show e :: (r ++ [34]) = (e :: r) ++ [34] from rfl, uq_end (e :: r)]
      · rw [if_neg h1, if_neg h2, if_neg h2, if_neg h1, show d :: e :: (r ++ [34]) = (d :: e :: r) ++ [34] from rfl, uq_end (d :: e :: r)]
theorem uq_no : ∀ t : List UInt8, t.getLast? ≠ some 34 → uq t = none
  | [], _ => rfl
  | [c], h => by
    unfold uq
    rw [if_neg (by rintro rfl; simp at h)]
  | [c, d], h => by
    unfold uq
    have : d ≠ 34 := by rintro rfl; simp at h
    simp [this]
  | c :: d :: e :: r, h => by
    have h1 : (e :: r).getLast? ≠ some 34 := by simpa [List.getLast?_cons_cons] using h
    have h2 : (d :: e :: r).getLast? ≠ some 34 := by simpa [List.getLast?_cons_cons] using h
    rw [uq, uq_no (e :: r) h1, uq_no (d :: e :: r) h2]
    simp
/-- Unquote's text; "" where it is none. -/
def unq (s : List UInt8) : Option (List UInt8) := match s with
  | 34 :: t => uq t
  | _ => none
/-- The document's Unquote. -/
def runq (s : List UInt8) : Option (List UInt8) := if 2 ≤ s.length ∧ s.head? = some 34 ∧ s.getLast? = some 34 then rq (s.drop 1).dropLast else none
theorem unq_eq (s : List UInt8) : runq s = unq s := by
  unfold runq
  match s with
  | [] => rfl
  | c :: t =>
    by_cases hc : c = 34
    · subst hc
      show _ = uq t
      by_cases ht : t.getLast? = some 34
      · obtain ⟨i, rfl⟩ : ∃ i, t = i ++ [34] := by
          have hne : t ≠ [] := by rintro rfl; simp at ht
          refine ⟨t.dropLast, ?_⟩
          have := List.dropLast_concat_getLast hne
          rw [List.getLast?_eq_some_getLast hne] at ht
          rw [← Option.some.inj ht]; exact this.symm
        rw [uq_end, if_pos ⟨by simp, rfl, by rw [show (34 : UInt8) :: (i ++ [34]) = (34 :: i) ++ [34] from rfl, List.getLast?_concat]⟩]
        simp
      · rw [uq_no t ht, if_neg]
        rintro ⟨h1, -, h3⟩
        cases t with
        | nil => simp at h1
        | cons d r => rw [List.getLast?_cons_cons] at h3; exact ht h3
    · have : unq (c :: t) = none := by
        unfold unq
        split
        · rename_i h; cases h; exact absurd rfl hc
        · rfl
      rw [this, if_neg (by rintro ⟨-, h2, -⟩; simp at h2; exact hc h2)]
/-- A number of seconds, -1: it is none. -/
def secF (v : Int) (c : UInt8) : Int := if 2147483648 < v * 10 + ((c.toNat : Int) - 48) then 2147483648 else v * 10 + ((c.toNat : Int) - 48)
def secL (s : List UInt8) : Int := if s = [] ∨ s.all Dt.isD = false then -1 else s.foldl secF 0
theorem secF_bd {v : Int} {c : UInt8} (h : Dt.isD c = true) (h0 : 0 ≤ v) : 0 ≤ secF v c ∧ secF v c ≤ 2147483648 := by
  have := Dt.isD_bd h
  unfold secF; split <;> omega
/- directives -/
abbrev Dir := List UInt8 × List UInt8 × Bool
/-- An argument, out of its quotes. -/
def argT (t : List UInt8) : List UInt8 := if t.head? = some 34 then (unq t).getD [] else t
def dirOf (d : List UInt8) : Dir := (fold (Ur.cutA 61 d), argT (Ur.cutB 61 d), Ur.hasC 61 d)
def dirsV (V : List (List UInt8)) : List Dir := (V.map fun v => (listL v).map dirOf).flatten
theorem dirsV_snoc {V : List (List UInt8)} {k : Nat} {x : List UInt8} (h : V[k]? = some x) : dirsV (V.take (k + 1)) = dirsV (V.take k) ++ (listL x).map dirOf := by
  unfold dirsV; rw [take_snoc? h]; simp
/-- The first directive of a name. -/
def firstD (D : List Dir) (n : List UInt8) : Option Dir := D.find? fun d => d.1 == n
theorem firstD_app (D E : List Dir) (n : List UInt8) : firstD (D ++ E) n = (firstD D n).or (firstD E n) := by unfold firstD; rw [List.find?_append]
def hasD (D : List Dir) (n : List UInt8) : Bool := (firstD D n).isSome
def numD (D : List Dir) (n : List UInt8) : Int := match firstD D n with
  | none => -1
  | some d => if secL d.2.1 < 0 then 0 else secL d.2.1
def patD (D : List Dir) (n : List UInt8) : Int := match firstD D n with
  | none => -1
  | some d => if d.2.2 = true then secL d.2.1 else 2147483648
/-- What a map of the first directives looks like: the names in it are those of D, each with its first directive. -/
def MapOf (D : List Dir) (m : List UInt8 → Option (List UInt8 × Bool)) : Prop := ∀ n, m n = (firstD D n).map fun d => (d.2.1, d.2.2)
end Ctl
end Go.Proofs.YtfhkgbimnfjfhaaGreatDoor
set_option linter.unusedVariables false
set_option linter.unusedSimpArgs false
namespace Go.Proofs.YtfhkgbimnfjfhaaGreatDoor
open Go.RowKit

def isB (f : Fld) (name : List UInt8) : Bool := fold f.1 == fold name
set_option maxHeartbeats 400000 in
theorem is_any (n v : List UInt8) (s : List UInt8) (w : World) (hn : n.length ≤ 140737488355328) (hs : s.length ≤ 140737488355328) :
    Calls Tryz.prog 61 #[.agg #[.string (bs n), .string (bs v)], .string (bs s)] w fun e w' => e = .returned (.bool (isB (n, v) s)) ∧ Below w.heap.size w w' := by
  go_enter Tryz.func61, Tryz.ntmps61
  go_wp2_with fail
  refine (fold_any n _ hn).mono ?_
  rintro e w1 ⟨rfl, hb1⟩
  go_wp2_with fail
  refine (fold_any s _ hs).mono ?_
  rintro e w2 ⟨rfl, hb2⟩
  go_wp2
  go_ret
  exact ⟨rfl, bnext (bnext (alloc_below _ _) hb1 (by simp)) hb2 (by have := hb1.size; simp at this; omega)⟩

/-- The first place at which p holds, -1: there is none. -/
def idxI {α : Type} (p : α → Bool) (l : List α) : Int := match l.findIdx? p with | some i => i | none => -1
theorem idxI_none {α : Type} {p : α → Bool} {l : List α} (h : l.any p = false) : idxI p l = -1 := by
  unfold idxI
  have : l.findIdx? p = none := by
    rw [List.findIdx?_eq_none_iff]
    intro x hx
    rw [Bool.eq_false_iff]
    intro hp
    rw [Bool.eq_false_iff] at h
    exact h (List.any_eq_true.2 ⟨x, hx, hp⟩)
  rw [this]
theorem idxI_some {α : Type} {p : α → Bool} {l : List α} {k : Nat} {x : α} (h : (l.take k).any p = false) (hx : l[k]? = some x) (hp : p x = true) : idxI p l = k := by
  unfold idxI
  have : l.findIdx? p = some k := by
    rw [List.findIdx?_eq_some_iff_getElem]
    obtain ⟨hk, rfl⟩ := List.getElem?_eq_some_iff.1 hx
    refine ⟨hk, hp, fun j hj => ?_⟩
    have hm := List.any_eq_false.1 h (l[j]'(by omega)) (List.mem_take_iff_getElem.2 ⟨j, by omega, rfl⟩)
    simpa using hm
  rw [this]
theorem idxI_ge {α : Type} (p : α → Bool) (l : List α) : decide (0 ≤ idxI p l) = l.any p := by
  cases h : l.any p with
  | false => rw [idxI_none h]; rfl
  | true =>
    unfold idxI
    cases hf : l.findIdx? p with
    | none =>
      rw [List.findIdx?_eq_none_iff] at hf
      obtain ⟨x, hx, hp⟩ := List.any_eq_true.1 h
      rw [hf x hx] at hp; cases hp
    | some i => simp
/-- A function value that, called with a text at any later world, tells p of it and makes at most memory. -/
def PredS (w : World) (K : FuncId) (caps : Array Value) (p : List UInt8 → Bool) : Prop :=
  (∀ (args : Array Value) (W : World), (callFunc K args).run Tryz.prog W = .ok (.enter K args) W) ∧ ∀ (W : World) (s : List UInt8), Below w.heap.size w W → s.length ≤ 140737488355328 → Calls Tryz.prog K (#[.string (bs s)] ++ caps) W fun e w' => e = .returned (.bool (p s)) ∧ Below W.heap.size W w'
set_option maxHeartbeats 400000 in
theorem indexFuncS_any (A : Option Addr) (n c : Nat) (l : List (List UInt8)) (K : FuncId) (caps : Array Value) (p : List UInt8 → Bool) (w0 w : World) (hw0 : Below w0.heap.size w0 w) (hl : RdS w A n l) (hn : n ≤ 140737488355328) (hls : ∀ s ∈ l, s.length ≤ 140737488355328)
    (hp : PredS w0 K caps p) :
    Calls Tryz.prog 104 #[.slice A n c, .func (.func K) #[] caps] w fun e w' => e = .returned (.int .i64 (idxI p l)) ∧ Below w.heap.size w w' := by
  have HN : Hid (∀ k x, (l.take k).any p = false → l[k]? = some x → p x = true → idxI p l = k) := Lib.hid fun k x h1 h2 h3 => idxI_some h1 h2 h3
  have HE : Hid ((l.take n).any p = false → idxI p l = -1) := Lib.hid fun h => idxI_none (by rwa [List.take_of_length_le (by rw [hl.1]; exact Nat.le_refl _)] at h)
  go_enter Tryz.func104, Tryz.ntmps104
  go_wp2_with fail
  go_loopw [8] (fun t wr => ∃ k : Nat, k ≤ n ∧ t = .int .i64 k ∧ (l.take k).any p = false ∧ Below w.heap.size w wr ∧ Below w0.heap.size w0 wr) (fun t _ => n - (intOf t).toNat)
  case atStart => exact ⟨0, by omega, rfl, by simp, Below.refl _ _, hw0⟩
  case round =>
    obtain ⟨k, hk, rfl, hall, hbr, hbr0⟩ := hrel
    have HA := Lib.hid hall
    clear hall
    by_cases hlt : k < n
    · obtain ⟨g, o, s, rfl, hg, HX, hc⟩ := (hl.step hbr).at_ hlt
      clear hl
      have hsl : s.length ≤ 140737488355328 := hls _ (mem_of_get? HX.out)
      have HT : Hid ((l.take (k + 1)).any p = p s) := Lib.hid (by rw [take_snoc? HX.out, List.any_append, HA.out]; simp)
      clear hls
      have hcf := hp.1
      have HP : Hid (p s = true → idxI p l = k) := Lib.hid (HN.out k s HA.out HX.out)
      go_wp2_with fail
      refine (hp.2 wr s hbr0 hsl).mono ?_
      rintro e w1 ⟨rfl, hb1⟩
      cases hps : p s
      · have HPS := Lib.hid hps
        go_wp2
        go_roundw
        case rel => exact ⟨k + 1, by omega, by go_num, by rw [HT.out, HPS.out], bnext hbr hb1 hbr.size, bnext hbr0 hb1 hbr0.size⟩
        case measure => simp [intOf]; omega
      · have HPS := Lib.hid hps
        go_wp2
        go_ret
        exact ⟨ret_int (HP.out HPS.out).symm, bnext hbr hb1 hbr.size⟩
    · obtain rfl : k = n := by omega
      go_wp2
      go_ret
      exact ⟨ret_int (HE.out HA.out).symm, hbr⟩
set_option maxHeartbeats 400000 in
theorem containsFuncS_any (A : Option Addr) (n c : Nat) (l : List (List UInt8)) (K : FuncId) (caps : Array Value) (p : List UInt8 → Bool) (w0 w : World) (hw0 : Below w0.heap.size w0 w) (hl : RdS w A n l) (hn : n ≤ 140737488355328) (hls : ∀ s ∈ l, s.length ≤ 140737488355328)
    (hp : PredS w0 K caps p) :
    Calls Tryz.prog 68 #[.slice A n c, .func (.func K) #[] caps] w fun e w' => e = .returned (.bool (l.any p)) ∧ Below w.heap.size w w' := by
  have HE := Lib.hid (idxI_ge p l)
  go_enter Tryz.func68, Tryz.ntmps68
  go_wp2_with fail
  refine (indexFuncS_any A n c l K caps p w0 _ hw0 hl hn hls hp).mono ?_
  rintro e w1 ⟨rfl, hb1⟩
  go_wp2
  go_ret
  exact ⟨ret_bool HE.out, hb1⟩
end Go.Proofs.YtfhkgbimnfjfhaaGreatDoor
set_option linter.unusedVariables false
set_option linter.unusedSimpArgs false
namespace Go.Proofs.YtfhkgbimnfjfhaaGreatDoor
open Go.RowKit

/-- The row v and the slice (A, n) lie in unlike blocks. -/
def Sep (v : Value) (A : Option Addr) (n : Nat) : Prop := 0 < n → ∀ g o, A = some ⟨g, o, none⟩ → v.ownBlock ≠ some g
theorem sep_of {w : World} {B : Nat} {v : Value} {l : List (List UInt8)} {A : Option Addr} {n c : Nat} {w2 : World} {E : List (List UInt8)} (hv : OwnS w B v l) (hu : OwnS w2 w.heap.size (.slice A n c) E) : Sep v A n := by
  intro _ g o hA he
  have h1 := (World.ownsRow.lt hv g he).2
  have h2 := (World.ownsRow.lt hu g (by rw [hA]; rfl)).1
  omega
theorem sep_rd {w w' : World} {sz n : Nat} {A : Option Addr} {xs : List Value} {v v' : Value} (h : Rd w sz A n xs) (hs : Sep v A n) (hg : w.grownBy w' v.ownBlock) (hv : v'.ownBlock = v.ownBlock ∨ v'.ownBlock = some w.heap.size) : Rd w' sz A n xs ∧ Sep v' A n := by
  refine ⟨⟨h.1, fun hn => ?_⟩, fun hn g o hA he => ?_⟩
  · obtain ⟨g, o, rfl, hlt, hc⟩ := h.2 hn
    have hne := hs hn g o rfl
    have hb := hg.block g hlt (fun e => hne e.symm)
    exact ⟨g, o, rfl, Nat.lt_of_lt_of_le hlt hg.size, fun j u hu => (World.cell?_of_block (w := w) (a := ⟨g, o + j, none⟩) hb).trans (hc j u hu)⟩
  · rcases hv with h1 | h1
    · exact hs hn g o hA (by rw [← h1]; exact he)
    · obtain ⟨g2, o2, e2, hlt, _⟩ := h.2 hn
      rw [hA] at e2
      injection e2 with e2; injection e2 with e3
      rw [he] at h1
      injection h1 with h1
      omega
section
variable {w : World} {ops : Array Oper} {rest : List Oper} {o : Oper} {a : Act} {Q : Exit → Act → World → Prop}
theorem wp_appS2 (hgd : o.guard = none) (s x : Operand) (ho : o.op = .call { callee := .builtin .append, args := #[s, x], argTypes := #[69, 69] })
    (base : Nat) (v : Value) (l : List (List UInt8)) (hs : a.eval s = v) (hown : OwnS w base v l) (A : Option Addr) (m c : Nat) (news : List (List UInt8)) (hx : a.eval x = .slice A m c) (hr : RdS w A m news)
    (hbytes : (l.length + m) * 16 ≤ 140737488355328) (hbase : base ≤ w.heap.size) {A2 : Option Addr} {n2 : Nat} {l2 : List (List UInt8)} (hE : RdS w A2 n2 l2) (hsep : Sep v A2 n2)
    (h : ∀ A' n' c' w', OwnS w' base (.slice A' n' c') (l ++ news) → Below base w w' → RdS w' A2 n2 l2 → Sep (.slice A' n' c') A2 n2 → Hid (n' = l.length + m) → wpList Tryz.prog ops Q rest (a.put o.dst (.slice A' n' c')) w') : wpList Tryz.prog ops Q (o :: rest) a w := by
  obtain ⟨i0, hi, hz0, hz1, hz2⟩ := info_parts str_info
  have h63 : l.length + m ≤ maxLen := by unfold maxLen; omega
  refine wpList_append_any w hgd s x _ ho base _ i0 _ 1 16 Tryz.underlying69 hi hz0 hz1 hz2 rfl (by omega) v l.length (strs l) hs hown A m c (strs news) hx hr.2 (strs_one _) h63 hbytes hbase fun v' w' h2 h3 h4 => ?_
  obtain ⟨A', c', rfl⟩ := own_slice h2
  obtain ⟨r1, r2⟩ := sep_rd hE.2 hsep h3 h4
  refine h A' _ c' w' ?_ ((Below.refl base w).grown h3 hbase fun k hk => (World.ownsRow.lt hown k hk).1) ⟨hE.1, r1⟩ r2 (Lib.hid rfl)
  unfold OwnS
  rw [List.length_append, hr.1, show strs (l ++ news) = strs l ++ strs news from by simp [strs]]
  exact h2
theorem wp_appS3 (hgd : o.guard = none) (s x : Operand) (ho : o.op = .call { callee := .builtin .append, args := #[s, x], argTypes := #[69, 69] })
    (base : Nat) (v : Value) (l : List (List UInt8)) (hs : a.eval s = v) (hown : OwnS w base v l) (A : Option Addr) (m c : Nat) (news : List (List UInt8)) (hx : a.eval x = .slice A m c) (hr : RdS w A m news)
    (hbytes : (l.length + m) * 16 ≤ 140737488355328) (hbase : base ≤ w.heap.size) {A2 : Option Addr} {n2 : Nat} {l2 : List (List UInt8)} (hE : RdS w A2 n2 l2) (hsep : Sep v A2 n2) {A3 : Option Addr} {n3 : Nat} {l3 : List (List UInt8)} (hE3 : RdS w A3 n3 l3) (hsep3 : Sep v A3 n3)
    (h : ∀ A' n' c' w', OwnS w' base (.slice A' n' c') (l ++ news) → Below base w w' → RdS w' A2 n2 l2 → Sep (.slice A' n' c') A2 n2 → RdS w' A3 n3 l3 → Sep (.slice A' n' c') A3 n3 → Hid (n' = l.length + m) → wpList Tryz.prog ops Q rest (a.put o.dst (.slice A' n' c')) w') : wpList Tryz.prog ops Q (o :: rest) a w := by
  obtain ⟨i0, hi, hz0, hz1, hz2⟩ := info_parts str_info
  have h63 : l.length + m ≤ maxLen := by unfold maxLen; omega
  refine wpList_append_any w hgd s x _ ho base _ i0 _ 1 16 Tryz.underlying69 hi hz0 hz1 hz2 rfl (by omega) v l.length (strs l) hs hown A m c (strs news) hx hr.2 (strs_one _) h63 hbytes hbase fun v' w' h2 h3 h4 => ?_
  obtain ⟨A', c', rfl⟩ := own_slice h2
  obtain ⟨r1, r2⟩ := sep_rd hE.2 hsep h3 h4
  obtain ⟨r3, r4⟩ := sep_rd hE3.2 hsep3 h3 h4
  refine h A' _ c' w' ?_ ((Below.refl base w).grown h3 hbase fun k hk => (World.ownsRow.lt hown k hk).1) ⟨hE.1, r1⟩ r2 ⟨hE3.1, r3⟩ r4 (Lib.hid rfl)
  unfold OwnS
  rw [List.length_append, hr.1, show strs (l ++ news) = strs l ++ strs news from by simp [strs]]
  exact h2
end
end Go.Proofs.YtfhkgbimnfjfhaaGreatDoor
set_option linter.unusedVariables false
set_option linter.unusedSimpArgs false
namespace Go.Proofs.YtfhkgbimnfjfhaaGreatDoor
open Go.RowKit

namespace Ctl
/-- A name's argument, and whether it has one; nothing where the name is not there. -/
def argAt (D : List Dir) (s : List UInt8) : List UInt8 × Bool := match firstD D s with
  | none => ([], false)
  | some d => (d.2.1, d.2.2)
theorem firstD_old {D : List Dir} {d : Dir} (h : hasD D d.1 = true) (n : List UInt8) : firstD (D ++ [d]) n = firstD D n := by
  rw [firstD_app]
  by_cases hn : n = d.1
  · subst hn
    unfold hasD at h
    cases hf : firstD D d.1 with
    | none => rw [hf] at h; simp at h
    | some x => rfl
  · have : firstD [d] n = none := by
      unfold firstD
      rw [List.find?_cons, show (d.1 == n) = false from by rw [beq_eq_false_iff_ne]; exact fun e => hn e.symm]; rfl
    rw [this]; cases firstD D n <;> rfl
theorem firstD_new {D : List Dir} {d : Dir} (h : hasD D d.1 = false) (n : List UInt8) : firstD (D ++ [d]) n = if n = d.1 then some d else firstD D n := by
  rw [firstD_app]
  by_cases hn : n = d.1
  · subst hn
    rw [if_pos rfl]
    unfold hasD at h
    have h0 : firstD D d.1 = none := by cases hf : firstD D d.1 with
      | none => rfl
      | some x => rw [hf] at h; simp at h
    rw [h0]
    unfold firstD
    simp
  · rw [if_neg hn]
    have : firstD [d] n = none := by
      unfold firstD
      rw [List.find?_cons, show (d.1 == n) = false from by rw [beq_eq_false_iff_ne]; exact fun e => hn e.symm]; rfl
    rw [this]; cases firstD D n <;> rfl
end Ctl
def argD (t : List UInt8) (b : Bool) : DataW Unit := .agg [.lit (.string t), .lit (.bool b)]
def argV (t : List UInt8) (b : Bool) : Value := .agg #[.string (bs t), .bool b]
/-- How an argument reads. -/
def argR (v : Value) : Option (DataW Unit × List MemPlace) := match v with
  | .agg vs => match vs.toList with
    | [.string s, .bool b] => some (argD s.data.toList b, [])
    | _ => none
  | _ => none
theorem argR_of (t : List UInt8) (b : Bool) : argR (argV t b) = some (argD t b, []) := rfl
theorem argR_inv {v : Value} {t : List UInt8} {b : Bool} {z : List MemPlace} (h : argR v = some (argD t b, z)) : v = argV t b := by
  unfold argR at h
  split at h
  · rename_i vs
    split at h
    · rename_i s c hl
      simp only [argD, Option.some.injEq, Prod.mk.injEq, DataW.agg.injEq, List.cons.injEq, DataW.lit.injEq, Lit.string.injEq, Lit.bool.injEq] at h
      obtain ⟨⟨h1, h2, -⟩, -⟩ := h
      obtain rfl : vs = #[.string s, .bool c] := by cases vs; simp at hl; rw [hl]
      subst h2
      unfold argV
      rw [← h1]; rfl
    · simp at h
  · simp at h
theorem tabLaw : Maps.Keyed Tryz.prog 9 := Maps.string_keyed Tryz.underlying9
theorem tabKey {s : List UInt8} (h : s.length ≤ maxLen) : keyOf Tryz.prog 9 (.string (bs s)) = some (.string s) := WideMaps.keyOf_string_mk Tryz.underlying9 (s := bs s) (by simpa using h)
def AtL (M : DataW Unit) (D : List Ctl.Dir) : Prop := Maps.IsMap M ∧ ∀ s : List UInt8, Maps.has M (.string s) = Ctl.hasD D s ∧ M.atKey (.string s) (argD [] false) = argD (Ctl.argAt D s).1 (Ctl.argAt D s).2
theorem AtL.nil : AtL (.map []) [] := ⟨⟨[], rfl⟩, fun s => ⟨rfl, rfl⟩⟩
theorem AtL.old {M : DataW Unit} {D : List Ctl.Dir} {d : Ctl.Dir} (h : AtL M D) (hd : Ctl.hasD D d.1 = true) : AtL M (D ++ [d]) := ⟨h.1, fun s => by
  have := h.2 s
  unfold Ctl.hasD Ctl.argAt at *
  rw [Ctl.firstD_old hd]; exact this⟩
theorem AtL.new {M : DataW Unit} {D : List Ctl.Dir} {d : Ctl.Dir} (h : AtL M D) (hd : Ctl.hasD D d.1 = false) : AtL (M.put (.string d.1) (argD d.2.1 d.2.2)) (D ++ [d]) := ⟨h.1.put _ _, fun s => by
  have h0 := h.2 s
  unfold Ctl.hasD Ctl.argAt at *
  rw [Ctl.firstD_new hd]
  by_cases hs : s = d.1
  · subst hs
    rw [if_pos rfl, Maps.has_put_same h.1 (by simp [WideAt.IsKeyLit]), Maps.atKey_put_same h.1 (by simp [WideAt.IsKeyLit])]
    exact ⟨rfl, rfl⟩
  · rw [if_neg hs, Maps.has_put_other (by simpa using hs), Maps.atKey_put_other (by simpa using hs)]
    exact h0⟩
theorem AtL.eq {M : DataW Unit} {D E : List Ctl.Dir} (h : AtL M D) (e : D = E) : AtL M E := e ▸ h
/-- Block mb is a map of at most n arguments: the first directives of D. -/
def TabW (w : World) (B mb n : Nat) (D : List Ctl.Dir) : Prop := B ≤ mb ∧ ∃ M, w.ownsMap Tryz.prog 9 argR mb n M ∧ AtL M D
theorem TabW.step {w w' : World} {B mb n : Nat} {D : List Ctl.Dir} (h : TabW w B mb n D) (hb : Below w.heap.size w w') : TabW w' B mb n D := by
  obtain ⟨h0, M, h1, h2⟩ := h
  exact ⟨h0, M, h1.kept (row := none) ⟨hb.os, hb.tape, hb.output, hb.size, fun k hk _ => hb.block k hk⟩ (by simp), h2⟩
theorem TabW.mono {w : World} {B mb n n' : Nat} {D : List Ctl.Dir} (h : TabW w B mb n D) (hn : n ≤ n') : TabW w B mb n' D := by
  obtain ⟨h0, M, h1, h2⟩ := h
  exact ⟨h0, M, h1.mono hn, h2⟩
theorem zeroArg (w : World) : (zeroValue 98).run Tryz.prog w = .ok (argV [] false) w := by kernel_rfl
theorem TabW.look {w : World} {B mb n : Nat} {D : List Ctl.Dir} (h : TabW w B mb n D) {s : List UInt8} (hs : s.length ≤ maxLen) :
    (Instr.lookup 72 (.map (some mb)) (.string (bs s)) true).run Tryz.prog w = .ok (.tuple #[argV (Ctl.argAt D s).1 (Ctl.argAt D s).2, .bool (Ctl.hasD D s)]) w := by
  obtain ⟨-, M, hm, -, hat⟩ := h
  obtain ⟨v, ps, hrun, hv⟩ := hm.look_ok tabLaw Tryz.underlying72 (zeroArg w) (argR_of [] false) (tabKey hs)
  rw [hrun, (hat s).1]
  rw [(hat s).2] at hv
  rw [argR_inv hv]
theorem mapTurned_below {w w' : World} {mb B : Nat} (h : w.mapTurned w' mb) (hB : B ≤ mb) (hw : B ≤ w.heap.size) : Below B w w' :=
  (Below.refl B w).grown h.grown hw fun k hk => by injection hk with hk; omega
theorem mapTurned_rdS {w w' : World} {mb n : Nat} {A : Option Addr} {l : List (List UInt8)} (h : w.mapTurned w' mb) (hl : RdS w A n l) : RdS w' A n l := by
  by_cases h0 : n = 0
  · subst h0
    obtain rfl : l = [] := List.eq_nil_of_length_eq_zero hl.1
    exact RdS.nil _ _
  · refine ⟨hl.1, hl.2.same h.grown.size fun g o e => ?_⟩
    obtain ⟨g', o', e', hg, hc⟩ := hl.2.2 (by omega)
    rw [e] at e'
    obtain ⟨rfl, rfl⟩ : g = g' ∧ o = o' := by simpa using e'
    have hcell := hc 0 _ (strs_get l 0 (by rw [hl.1]; omega))
    refine h.grown.block g hg fun e2 => ?_
    obtain ⟨es, clock, es', clock', hb, -⟩ := h
    injection e2 with e2
    subst e2
    simp [World.cell?, hb] at hcell
end Go.Proofs.YtfhkgbimnfjfhaaGreatDoor
