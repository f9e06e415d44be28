/- Joined texts: tok.List and the reference's List: the elements of a list; Numbers of one to 18 digits, and the length that all elements tell, as functions on lists of bytes. The conditions stand in each line. -/
import Derived.Test.YtcaekfebnhedpaaGreatDoorM5
import Derived.Lib.Atoi
set_option linter.unusedVariables false
set_option linter.unusedSimpArgs false
namespace Go.Proofs.YtcaekfebnhedpaaGreatDoor
open Go.RowKit

/-- The elements: the trimmed pieces that are not empty. -/
def keepE (l : List (List UInt8)) : List (List UInt8) := l.filter fun p => !p.isEmpty
theorem listL_eq (s : List UInt8) : listL s = keepE ((splitL 44 s).map trimL) := rfl
theorem keepE_snoc {l : List (List UInt8)} {k : Nat} {x : List UInt8} (h : l[k]? = some x) : keepE (l.take (k + 1)) = keepE (l.take k) ++ (if (!x.isEmpty) = true then [x] else []) := filter_snoc h
theorem keepE_le (l : List (List UInt8)) : (keepE l).length ≤ l.length := List.length_filter_le _ _
theorem pieces_len (c : UInt8) : ∀ (s : List UInt8) (q : Bool) (cur : List UInt8), (pieces c s q cur).length ≤ s.length + 1 ∧ ∀ p ∈ pieces c s q cur, p.length ≤ cur.length + s.length
  | [], q, cur => by simp [pieces]
  | [b], q, cur => by
    simp only [pieces]
    split
    · simp
    · split
      · simp
      · split <;> simp
  | b :: d :: r, q, cur => by
    have i1 := pieces_len c r q (cur ++ [b, d])
    have i2 := pieces_len c (d :: r) (!q) (cur ++ [b])
    have i3 := pieces_len c (d :: r) q []
    have i4 := pieces_len c (d :: r) q (cur ++ [b])
    simp only [pieces]
    simp only [List.length_append, List.length_cons, List.length_nil] at i1 i2 i3 i4 ⊢
    split
    · exact ⟨by have := i1.1; omega, fun p hp => by have := i1.2 p hp; omega⟩
    · split
      · exact ⟨by have := i2.1; omega, fun p hp => by have := i2.2 p hp; omega⟩
      · split
        · refine ⟨by simp only [List.length_cons]; have := i3.1; omega, fun p hp => ?_⟩
          rcases List.mem_cons.1 hp with rfl | hp
          · omega
          · have := i3.2 p hp; omega
        · exact ⟨by have := i4.1; omega, fun p hp => by have := i4.2 p hp; omega⟩
theorem split_len (c : UInt8) (s : List UInt8) : (splitL c s).length ≤ s.length + 1 := (pieces_len c s false []).1
theorem split_each (c : UInt8) (s : List UInt8) {k : Nat} {x : List UInt8} (h : (splitL c s)[k]? = some x) : x.length ≤ s.length := by
  have := (pieces_len c s false []).2 x (mem_of_get? h)
  simpa using this
theorem list_len (s : List UInt8) : (listL s).length ≤ s.length + 1 := Nat.le_trans (keepE_le _) (by rw [List.length_map]; exact split_len 44 s)
theorem list_each (s : List UInt8) {x : List UInt8} (h : x ∈ listL s) : x.length ≤ s.length := by
  obtain ⟨y, hy, rfl⟩ := List.mem_map.1 (List.mem_filter.1 h).1
  have := (pieces_len 44 s false []).2 y hy
  have := trimL_le y
  simp at *; omega
set_option maxHeartbeats 1000000 in
theorem list_own (s : List UInt8) (w : World) (hs : s.length ≤ 4398046511104) :
    Calls Tryz.prog 30 #[.string (bs s)] w fun e w' => ∃ A' n' c', e = .returned (.slice A' n' c') ∧ OwnS w' w.heap.size (.slice A' n' c') (listL s) ∧ Below w.heap.size w w' := by
  have HL : Hid (((splitL 44 s).map trimL).length ≤ s.length + 1) := Lib.hid (by rw [List.length_map]; exact split_len 44 s)
  have HF : Hid (∀ l, l = (splitL 44 s).map trimL → keepE l = listL s) := Lib.hid (fun l h => by rw [h]; rfl)
  go_enter Tryz.func30, Tryz.ntmps30
  go_wp2_with fail
  refine (split_own s 44 w hs).mono ?_
  rintro e w1 ⟨A, n, c, rfl, hS, hb1⟩
  have hrd := hS.rd
  clear hS
  generalize (splitL 44 s).map trimL = L at *
  have HF2 : Hid (keepE (L.take n) = listL s) := Lib.hid (by rw [List.take_of_length_le (by rw [hrd.1]; exact Nat.le_refl _)]; exact HF.out L rfl)
  have hnl : n ≤ s.length + 1 := by have := HL.out; rw [hrd.1] at this; exact this
  clear HF HL
  go_wp2
  go_loopw [3, 9] (fun v t wr => ∃ (k : Nat) (A' : Option Addr) (n' c' : Nat), k ≤ n ∧ t = .int .i64 k ∧ v = .slice A' n' c' ∧ OwnS wr w1.heap.size (.slice A' n' c') (keepE (L.take k)) ∧ Below w1.heap.size w1 wr) (fun _ t _ => n - (intOf t).toNat)
  case atStart => exact ⟨0, _, _, _, by omega, rfl, rfl, OwnS.nil _ _, Below.refl _ _⟩
  case round =>
    obtain ⟨k, A', n', c', hk, rfl, rfl, hown, hbr⟩ := hrel
    by_cases hlt : k < n
    · obtain ⟨g, o, x, rfl, hg, HX, hc1⟩ := (hrd.step hbr).at_ hlt
      have HS := Lib.hid (keepE_snoc HX.out)
      have HK : Hid ((keepE (L.take k)).length ≤ k) := Lib.hid (by have := keepE_le (L.take k); rw [List.length_take] at this; omega)
      clear hrd
      cases hx : (!x.isEmpty)
      · have HX2 := Lib.hid hx
        go_wp2
        go_roundw
        case rel => exact ⟨k + 1, A', n', c', by omega, by go_num, rfl, by rw [HS.out]; simp only [HX2.out, Bool.false_eq_true, if_false, List.append_nil]; exact hown, hbr⟩
        case measure => simp [intOf]; omega
      · have HX2 := Lib.hid hx
        go_wp2_with
          (at_builtin
           refine wp_appS rfl (.tmp 15) (.tmp 17) rfl w1.heap.size (.slice A' n' c') _ rfl (hown.step (alloc_below _ _)) _ 1 1 [x] rfl ?hr ?hby ?hbase ?_
           case hr => exact one_rdS' _ _ _ _ (by simp)
           case hby => have := HK.out; omega
           case hbase => have := hbr.size; simp; omega
           intro A3 n3 c3 w3 hown3 hb3 hn3)
        go_roundw
        case rel => exact ⟨k + 1, A3, n3, c3, by omega, by go_num, rfl, by rw [HS.out]; simp only [HX2.out, if_true]; exact hown3, (bnext hbr (alloc_below _ _) hbr.size).trans hb3⟩
        case measure => simp [intOf]; omega
    · obtain rfl : k = n := by omega
      go_wp2
      go_ret
      exact ⟨A', n', c', rfl, by rw [← HF2.out]; exact hown.mono hb1.size, bnext hb1 hbr hb1.size⟩
end Go.Proofs.YtcaekfebnhedpaaGreatDoor
set_option linter.unusedVariables false
set_option linter.unusedSimpArgs false
namespace Go.Proofs.YtcaekfebnhedpaaGreatDoor
open Go.RowKit

def digB (b : UInt8) : Bool := decide (48 ≤ b.toNat ∧ b.toNat ≤ 57)
theorem digitVal_yes {b : UInt8} (h : digB b = true) : Lib.digitVal b = some (b.toNat - 48) := by unfold Lib.digitVal; rw [if_pos (of_decide_eq_true h)]
theorem digitVal_no {b : UInt8} (h : digB b = false) : Lib.digitVal b = none := by unfold Lib.digitVal; rw [if_neg (of_decide_eq_false h)]
/-- The number of one to 18 digits; -1: it is none. -/
def numL (s : List UInt8) : Int := if s.length ≤ 18 then (match Lib.decNat s with | some n => (n : Int) | none => -1) else -1
theorem decFrom_all : ∀ (s : List UInt8) (a : Nat), s.all digB = true → ∃ n, Lib.decFrom a s = some n ∧ n < (a + 1) * 10 ^ s.length
  | [], a, _ => ⟨a, rfl, by simp⟩
  | b :: r, a, h => by
    simp only [List.all_cons, Bool.and_eq_true] at h
    have hb := of_decide_eq_true h.1
    obtain ⟨n, h1, h2⟩ := decFrom_all r (a * 10 + (b.toNat - 48)) h.2
    refine ⟨n, ?_, ?_⟩
    · rw [Lib.decFrom, digitVal_yes h.1]; exact h1
    · refine Nat.lt_of_lt_of_le h2 ?_
      rw [List.length_cons, Nat.pow_succ, Nat.mul_comm (10 ^ r.length) 10, ← Nat.mul_assoc]
      exact Nat.mul_le_mul_right _ (by omega)
theorem decFrom_none : ∀ (s : List UInt8) (a : Nat), s.all digB = false → Lib.decFrom a s = none
  | [], a, h => by simp at h
  | b :: r, a, h => by
    rw [Lib.decFrom]
    cases hb : digB b
    · rw [digitVal_no hb]
    · rw [digitVal_yes hb]
      exact decFrom_none r _ (by simpa [hb] using h)
theorem numL_bad_len {s : List UInt8} (h : 18 < s.length) : numL s = -1 := by unfold numL; rw [if_neg (by omega)]
theorem numL_bad {s : List UInt8} (h : s.all digB = false) : numL s = -1 := by
  unfold numL Lib.decNat
  split
  · cases s with
    | nil => rfl
    | cons b r => simp only [List.isEmpty_cons, Bool.false_eq_true, if_false]; rw [decFrom_none _ _ h]
  · rfl
theorem numL_nil : numL [] = -1 := rfl
theorem numL_good {s : List UInt8} (h : s.all digB = true) (h1 : s ≠ []) (h2 : s.length ≤ 18) : ∃ n : Nat, numL s = (n : Int) ∧ n < 1000000000000000000 ∧ Lib.decFrom 0 s = some n ∧ Lib.atoi s = some (n : Int) := by
  obtain ⟨n, e, hn⟩ := decFrom_all s 0 h
  have hlt : n < 1000000000000000000 := by
    have h18 := Nat.lt_of_lt_of_le hn (show (0 + 1) * 10 ^ s.length ≤ 10 ^ 18 by rw [Nat.zero_add, Nat.one_mul]; exact Nat.pow_le_pow_right (by omega) h2)
    have e18 : (10 : Nat) ^ 18 = 1000000000000000000 := by simp
    rwa [e18] at h18
  have hd : Lib.decNat s = some n := by
    unfold Lib.decNat
    cases s with
    | nil => exact absurd rfl h1
    | cons b r => exact e
  refine ⟨n, by unfold numL; rw [if_pos h2, hd], hlt, e, ?_⟩
  cases s with
  | nil => exact absurd rfl h1
  | cons b r =>
    have hb := of_decide_eq_true (by simp only [List.all_cons, Bool.and_eq_true] at h; exact h.1 : digB b = true)
    have n1 : (b == 45) = false := by rw [beq_eq_false_iff_ne]; rintro rfl; exact absurd hb.1 (by decide)
    have n2 : (b == 43) = false := by rw [beq_eq_false_iff_ne]; rintro rfl; exact absurd hb.1 (by decide)
    rw [Lib.atoi, n1, n2]
    simp only [Bool.false_eq_true, if_false]
    rw [hd]; rfl
/-- What is left of a text without digits at its ends is empty just where all are digits. -/
def digS : List UInt8 := [48, 49, 50, 51, 52, 53, 54, 55, 56, 57]
theorem digS_contains (b : UInt8) : digS.contains b = digB b := by
  have h := b.toNat_lt
  unfold digS digB
  rw [Bool.eq_iff_iff, decide_eq_true_iff, List.contains_iff_mem]
  simp only [List.mem_cons, List.not_mem_nil, or_false]
  constructor
  · rintro (rfl | rfl | rfl | rfl | rfl | rfl | rfl | rfl | rfl | rfl) <;> decide
  · rintro ⟨h1, h2⟩
    have hb : ∀ k : Nat, b.toNat = k → k < 256 → b = UInt8.ofNat k := fun k e hk => UInt8.toNat_inj.1 (by rw [e]; simp; omega)
    have : b.toNat = 48 ∨ b.toNat = 49 ∨ b.toNat = 50 ∨ b.toNat = 51 ∨ b.toNat = 52 ∨ b.toNat = 53 ∨ b.toNat = 54 ∨ b.toNat = 55 ∨ b.toNat = 56 ∨ b.toNat = 57 := by omega
    rcases this with e | e | e | e | e | e | e | e | e | e <;> rw [hb _ e (by omega)] <;> decide
theorem trimDig_nil {s : List UInt8} (h : s.all digB = true) : Lib.trimS s digS = [] := by
  have hdw : ∀ l : List UInt8, l.all digB = true → l.dropWhile (fun b => digS.contains b) = [] := by
    intro l
    induction l with
    | nil => intro _; rfl
    | cons x r ih =>
      intro h
      simp only [List.all_cons, Bool.and_eq_true] at h
      rw [List.dropWhile_cons, if_pos (by rw [digS_contains]; exact h.1)]; exact ih h.2
  unfold Lib.trimS Lib.trimRightS Lib.trimLeftS
  rw [hdw s.reverse (by rw [List.all_reverse]; exact h)]; rfl
theorem trimDig_some {s : List UInt8} (h : s.all digB = false) : Lib.trimS s digS ≠ [] := by
  have hdw : ∀ l : List UInt8, l.all digB = false → ∃ b r, l.dropWhile (fun b => digS.contains b) = b :: r ∧ digB b = false := by
    intro l
    induction l with
    | nil => intro h; simp at h
    | cons x r ih =>
      intro h
      cases hx : digB x
      · exact ⟨x, r, by rw [List.dropWhile_cons, if_neg (by rw [digS_contains, hx]; decide)], hx⟩
      · obtain ⟨b, r2, e1, e2⟩ := ih (by simpa [hx] using h)
        exact ⟨b, r2, by rw [List.dropWhile_cons, if_pos (by rw [digS_contains, hx])]; exact e1, e2⟩
  intro he
  obtain ⟨b, r, e1, e2⟩ := hdw s.reverse (by rw [List.all_reverse]; exact h)
  unfold Lib.trimS Lib.trimRightS Lib.trimLeftS at he
  rw [e1] at he
  obtain ⟨b3, r3, e3, _⟩ := hdw (b :: r).reverse (by rw [List.all_reverse, List.all_cons, e2]; rfl)
  rw [e3] at he; cases he

/-- What all elements tell: the number and the error. -/
def lenL (E : List (List UInt8)) : Int × Int := match E with
  | [] => (0, 60)
  | x :: _ => if (E.all fun y => decide (0 ≤ numL y) && (numL y == numL x)) = true then (if numL x > 65536 then (0, 71) else (numL x, 0)) else (0, 60)
theorem lenL_bad {E : List (List UInt8)} {y : List UInt8} (h : y ∈ E) (hb : numL y < 0) : lenL E = (0, 60) := by
  unfold lenL
  cases E with
  | nil => rfl
  | cons x r =>
    simp only
    rw [if_neg]
    intro ha
    have := List.all_eq_true.1 ha y h
    simp at this; omega
theorem lenL_unlike {E : List (List UInt8)} {y z : List UInt8} (hy : y ∈ E) (hz : z ∈ E) (hb : numL y ≠ numL z) : lenL E = (0, 60) := by
  unfold lenL
  cases E with
  | nil => rfl
  | cons x r =>
    simp only
    rw [if_neg]
    intro ha
    have h1 := List.all_eq_true.1 ha y hy
    have h2 := List.all_eq_true.1 ha z hz
    simp at h1 h2
    exact hb (by rw [h1.2, h2.2])
/-- All elements so far tell this number; -1: there was none. -/
def toldL (E : List (List UInt8)) (v : Int) : Prop := (E = [] ∧ v = -1) ∨ (E ≠ [] ∧ 0 ≤ v ∧ ∀ y ∈ E, numL y = v)
theorem lenL_told {E : List (List UInt8)} {v : Int} (h : toldL E v) : lenL E = if v < 0 then (0, 60) else if v > 65536 then (0, 71) else (v, 0) := by
  rcases h with ⟨rfl, rfl⟩ | ⟨hne, h0, ha⟩
  · rfl
  · cases E with
    | nil => exact absurd rfl hne
    | cons x r =>
      have hx := ha x (by simp)
      rw [if_neg (by omega)]
      unfold lenL
      simp only
      rw [if_pos, hx]
      rw [List.all_eq_true]
      intro y hy
      simp [ha y hy, hx, h0]
theorem toldL_snoc {E : List (List UInt8)} {v : Int} {y : List UInt8} (h : toldL E v) (h0 : 0 ≤ numL y) (hv : v < 0 ∨ v = numL y) : toldL (E ++ [y]) (numL y) := by
  refine .inr ⟨by simp, h0, fun z hz => ?_⟩
  rcases List.mem_append.1 hz with hz | hz
  · rcases h with ⟨rfl, _⟩ | ⟨_, h2, h3⟩
    · cases hz
    · rw [h3 z hz]; omega
  · rw [List.mem_singleton.1 hz]
theorem toldL_mem {E : List (List UInt8)} {v : Int} (h : toldL E v) (h0 : 0 ≤ v) : ∃ y, y ∈ E ∧ numL y = v := by
  rcases h with ⟨_, rfl⟩ | ⟨hne, _, ha⟩
  · omega
  · cases E with
    | nil => exact absurd rfl hne
    | cons x r => exact ⟨x, by simp, ha x (by simp)⟩
/-- The elements of values. -/
def elemsV (V : List (List UInt8)) : List (List UInt8) := (V.map listL).flatten
theorem elemsV_snoc {V : List (List UInt8)} {k : Nat} {x : List UInt8} (h : V[k]? = some x) : elemsV (V.take (k + 1)) = elemsV (V.take k) ++ listL x := by
  unfold elemsV; rw [take_snoc? h]; simp
theorem elemsV_mem {V : List (List UInt8)} {k j : Nat} {x y : List UInt8} (h : V[k]? = some x) (h2 : (listL x)[j]? = some y) : y ∈ elemsV V := by
  unfold elemsV
  exact List.mem_flatten.2 ⟨listL x, List.mem_map.2 ⟨x, mem_of_get? h, rfl⟩, mem_of_get? h2⟩
theorem listL_ne {x y : List UInt8} {j : Nat} (h : (listL x)[j]? = some y) : y ≠ [] := by
  have := (List.mem_filter.1 (mem_of_get? h)).2
  rintro rfl; simp at this
theorem elemsV_take {V : List (List UInt8)} {k : Nat} {y : List UInt8} (h : y ∈ elemsV (V.take k)) : y ∈ elemsV V := by
  unfold elemsV at *
  obtain ⟨l, hl, hy⟩ := List.mem_flatten.1 h
  obtain ⟨x, hx, rfl⟩ := List.mem_map.1 hl
  exact List.mem_flatten.2 ⟨listL x, List.mem_map.2 ⟨x, List.mem_of_mem_take hx, rfl⟩, hy⟩
end Go.Proofs.YtcaekfebnhedpaaGreatDoor
