/- Joined texts: Addresses in plain Lean: hosts, ports, the codes of a text, the segments of a path, whole addresses; Rules that decide (layer 21), as functions on lists of bytes; acl.number and the reference's: a number of so many digits at most. The conditions stand in each line. -/
import Derived.Test.YtgkphjbcaidcpaaGreatDoorM2
import Derived.Test.YtgkphjbcaidcpaaGreatDoorM3
import Derived.Test.YtgkphjbcaidcpaaGreatDoorM4
import Derived.Lib.IndexMore
import Derived.Lib.IndexAny
import Derived.Lib.SplitLaws
import Derived.Lib.Join
import Derived.Lib.Case
import Derived.Lib.Atoi
import Derived.Lib.SlTrimSet
import Derived.Deep.LoopGhost
import Derived.Deep.Cut
import Derived.Deep.DeepCutAuto
set_option linter.unusedVariables false
set_option linter.unusedSimpArgs false
namespace Go.Proofs.YtgkphjbcaidcpaaGreatDoor
namespace Ur
def alnum (c : UInt8) : Bool := (decide (48 ≤ c.toNat) && decide (c.toNat ≤ 57)) || (decide (65 ≤ c.toNat) && decide (c.toNat ≤ 90)) || (decide (97 ≤ c.toNat) && decide (c.toNat ≤ 122))
def hostC (c : UInt8) : Bool := alnum c || c == 45 || c == 46
def unres (c : UInt8) : Bool := alnum c || c == 45 || c == 46 || c == 95 || c == 126
def hostB (s : List UInt8) : Bool := s.all hostC && (decide (1 ≤ s.length) && decide (s.length ≤ 255))
def portV (s : List UInt8) : Int := if s = [] ∨ 5 < s.length ∨ s.all Dt.isD = false then 0 else if 65535 < Dt.val s then 0 else Dt.val s
/- cut at a byte -/
def cutA (c : UInt8) (s : List UInt8) : List UInt8 := s.takeWhile fun b => b != c
def cutR (c : UInt8) (s : List UInt8) : List UInt8 := s.dropWhile fun b => b != c
def cutB (c : UInt8) (s : List UInt8) : List UInt8 := (cutR c s).drop 1
def hasC (c : UInt8) (s : List UInt8) : Bool := !(cutR c s).isEmpty
theorem cut_app (c : UInt8) (s : List UInt8) : cutA c s ++ cutR c s = s := List.takeWhile_append_dropWhile
theorem cutA_ne {c b : UInt8} (r : List UInt8) (h : b ≠ c) : cutA c (b :: r) = b :: cutA c r := by
  unfold cutA; rw [List.takeWhile_cons, if_pos (by simpa using h)]
theorem cutR_ne {c b : UInt8} (r : List UInt8) (h : b ≠ c) : cutR c (b :: r) = cutR c r := by
  unfold cutR; rw [List.dropWhile_cons, if_pos (by simpa using h)]
theorem cutA_eq (c : UInt8) (r : List UInt8) : cutA c (c :: r) = [] := by
  unfold cutA; rw [List.takeWhile_cons, if_neg (by simp)]
theorem cutR_eq (c : UInt8) (r : List UInt8) : cutR c (c :: r) = c :: r := by
  unfold cutR; rw [List.dropWhile_cons, if_neg (by simp)]
theorem cutB_ne {c b : UInt8} (r : List UInt8) (h : b ≠ c) : cutB c (b :: r) = cutB c r := by unfold cutB; rw [cutR_ne r h]
theorem cutB_eq (c : UInt8) (r : List UInt8) : cutB c (c :: r) = r := by unfold cutB; rw [cutR_eq]; rfl
theorem hasC_ne {c b : UInt8} (r : List UInt8) (h : b ≠ c) : hasC c (b :: r) = hasC c r := by unfold hasC; rw [cutR_ne r h]
theorem hasC_eq (c : UInt8) (r : List UInt8) : hasC c (c :: r) = true := by unfold hasC; rw [cutR_eq]; rfl
theorem cut_yes {c : UInt8} : ∀ {s : List UInt8}, hasC c s = true → cutR c s = c :: cutB c s
  | [], h => by simp [hasC, cutR] at h
  | b :: r, h => by
    by_cases hb : b = c
    · subst hb; rw [cutR_eq, cutB_eq]
    · rw [hasC_ne r hb] at h; rw [cutR_ne r hb, cutB_ne r hb]; exact cut_yes h
theorem cut_no {c : UInt8} {s : List UInt8} (h : hasC c s = false) : cutR c s = [] := by
  unfold hasC at h; simpa using h
theorem cutA_no {c : UInt8} {s : List UInt8} (h : hasC c s = false) : cutA c s = s := by
  have := cut_app c s; rw [cut_no h, List.append_nil] at this; exact this
theorem cutB_no {c : UInt8} {s : List UInt8} (h : hasC c s = false) : cutB c s = [] := by unfold cutB; rw [cut_no h]; rfl
theorem cut_join {c : UInt8} {s : List UInt8} (h : hasC c s = true) : s = cutA c s ++ c :: cutB c s := by
  rw [← cut_yes h, cut_app]
theorem cutA_free (c : UInt8) : ∀ (s : List UInt8), ∀ b ∈ cutA c s, b ≠ c
  | [], b, h => by simp [cutA] at h
  | x :: r, b, h => by
    by_cases hx : x = c
    · subst hx; rw [cutA_eq] at h; cases h
    · rw [cutA_ne r hx] at h
      rcases List.mem_cons.1 h with rfl | h
      · exact hx
      · exact cutA_free c r b h
theorem cut_of {c : UInt8} (t : List UInt8) : ∀ (h : List UInt8), (∀ b ∈ h, b ≠ c) → cutA c (h ++ c :: t) = h ∧ cutR c (h ++ c :: t) = c :: t
  | [], _ => ⟨cutA_eq c t, cutR_eq c t⟩
  | x :: r, hh => by
    have hx := hh x (by simp)
    have ih := cut_of t r fun b hb => hh b (by simp [hb])
    rw [List.cons_append, cutA_ne _ hx, cutR_ne _ hx, ih.1, ih.2]; exact ⟨rfl, rfl⟩
theorem cut_none {c : UInt8} : ∀ (h : List UInt8), (∀ b ∈ h, b ≠ c) → cutA c h = h ∧ cutR c h = []
  | [], _ => ⟨rfl, rfl⟩
  | x :: r, hh => by
    have hx := hh x (by simp)
    have ih := cut_none r fun b hb => hh b (by simp [hb])
    rw [cutA_ne _ hx, cutR_ne _ hx, ih.1, ih.2]; exact ⟨rfl, rfl⟩
theorem cutA_mem {c b : UInt8} {s : List UInt8} (h : b ∈ cutA c s) : b ∈ s := (List.takeWhile_sublist _).mem h
theorem cutR_mem {c b : UInt8} {s : List UInt8} (h : b ∈ cutR c s) : b ∈ s := (List.dropWhile_sublist _).mem h
theorem cutB_mem {c b : UInt8} {s : List UInt8} (h : b ∈ cutB c s) : b ∈ s := cutR_mem (List.mem_of_mem_drop h)
theorem cutA_le (c : UInt8) (s : List UInt8) : (cutA c s).length ≤ s.length := (List.takeWhile_sublist _).length_le
theorem cutR_le (c : UInt8) (s : List UInt8) : (cutR c s).length ≤ s.length := (List.dropWhile_sublist _).length_le
theorem cutB_le (c : UInt8) (s : List UInt8) : (cutB c s).length ≤ s.length := by unfold cutB; rw [List.length_drop]; have := cutR_le c s; omega
theorem lib_index (c : UInt8) : ∀ s : List UInt8, Lib.index s [c] = if hasC c s = true then ((cutA c s).length : Int) else -1
  | [] => by rw [Lib.index_one]; rfl
  | b :: r => by
    have ih := lib_index c r
    rw [Lib.index_one] at ih ⊢
    unfold Lib.indexByte
    by_cases hb : b = c
    · subst hb; rw [hasC_eq, cutA_eq]; simp
    · rw [hasC_ne r hb, cutA_ne r hb, ih]
      have : (b == c) = false := by simpa using hb
      rw [this]
      cases hasC c r
      · simp
      · have h1 : ¬ ((((cutA c r).length : Nat) : Int) == -1) = true := by rw [beq_iff_eq]; omega
        simp [h1]
theorem lib_cut (c : UInt8) (s : List UInt8) : Lib.cut s [c] = (cutA c s, cutB c s, hasC c s) := by
  unfold Lib.cut
  rw [lib_index]
  cases h : hasC c s
  · rw [if_neg (by simp), cutA_no h, cutB_no h]
  · simp only [if_true]
    rw [if_pos (by omega)]
    have hj := cut_join h
    have e1 : s.take (cutA c s).length = cutA c s := by conv => lhs; arg 2; rw [hj]
                                                        simp
    have e2 : s.drop ((cutA c s).length + 1) = cutB c s := by conv => lhs; arg 2; rw [hj]
                                                              rw [List.drop_append, List.drop_eq_nil_of_le (by omega)]; simp
    simp only [Int.toNat_natCast, List.length_cons, List.length_nil, Nat.zero_add]
    rw [e1, e2]
/- where an authority ends -/
def stop (c : UInt8) : Bool := c == 47 || c == 63
def nameS (s : List UInt8) : List UInt8 := s.takeWhile fun b => !stop b
def restS (s : List UInt8) : List UInt8 := s.dropWhile fun b => !stop b
theorem name_rest (s : List UInt8) : nameS s ++ restS s = s := List.takeWhile_append_dropWhile
theorem lib_any : ∀ s : List UInt8, Lib.indexAny s [47, 63] = if restS s = [] then -1 else ((nameS s).length : Int)
  | [] => rfl
  | b :: r => by
    have ih := lib_any r
    unfold Lib.indexAny
    have hc : ([47, 63] : List UInt8).contains b = stop b := by unfold stop; rw [List.contains_cons, List.contains_cons, List.contains_nil, Bool.or_false]
    rw [hc, ih]
    unfold restS nameS
    rw [List.dropWhile_cons, List.takeWhile_cons]
    cases hs : stop b
    · simp only [Bool.not_false, if_true, Bool.false_eq_true, if_false]
      by_cases hr : List.dropWhile (fun b => !stop b) r = []
      · simp [hr]
      · simp only [hr, if_false, List.length_cons]
        rw [if_neg (by rw [beq_iff_eq]; omega)]; push_cast; rfl
    · simp
/-- Where the authority ends, as the code has it. -/
def endI (s : List UInt8) : Nat := (nameS s).length
theorem endI_le (s : List UInt8) : endI s ≤ s.length := (List.takeWhile_sublist _).length_le
theorem end_of_any (s : List UInt8) : (if Lib.indexAny s [47, 63] < 0 then (s.length : Int) else Lib.indexAny s [47, 63]) = endI s := by
  rw [lib_any]
  unfold endI
  by_cases h : restS s = []
  · have := name_rest s
    rw [h, List.append_nil] at this
    rw [if_pos h, if_pos (by decide), this]
  · rw [if_neg h, if_neg (by omega)]
theorem take_end (s : List UInt8) : s.take (endI s) = nameS s := by
  unfold endI
  conv => lhs; arg 2; rw [← name_rest s]
  simp
theorem drop_end (s : List UInt8) : s.drop (endI s) = restS s := by
  unfold endI
  conv => lhs; arg 2; rw [← name_rest s]
  simp
/- targets -/
abbrev Tgt := List UInt8 × Int × List UInt8
def tgtV (t : Tgt) : Value := .agg #[.string (bs t.1), .int .i64 t.2.1, .string (bs t.2.2)]
def noT : Tgt := ([], 0, [])
def authL (s : List UInt8) : Tgt × Int :=
  if 4096 < s.length then (noT, 101) else if hostB (cutA 58 s) = false then (noT, 32) else if portV (cutB 58 s) = 0 then (noT, 33) else ((fold (cutA 58 s), portV (cutB 58 s), []), 0)
def sch : List UInt8 := [104, 116, 116, 112, 58, 47, 47]
def showL (t : Tgt) : List UInt8 := sch ++ t.1 ++ (if t.2.1 = 80 then [] else 58 :: Lib.itoa t.2.1) ++ t.2.2
def origL (t : Tgt) : List UInt8 := t.1 ++ 58 :: Lib.itoa t.2.1
/- codes -/
def hexv (c : UInt8) : Option Nat :=
  if 48 ≤ c.toNat ∧ c.toNat ≤ 57 then some (c.toNat - 48) else if 65 ≤ c.toNat ∧ c.toNat ≤ 70 then some (c.toNat - 55) else if 97 ≤ c.toNat ∧ c.toNat ≤ 102 then some (c.toNat - 87) else none
def hexU (n : Nat) : UInt8 := if n < 10 then UInt8.ofNat (48 + n) else UInt8.ofNat (55 + n)
/-- What a told byte becomes. -/
def code (x y : Nat) : List UInt8 := if unres (UInt8.ofNat (16 * x + y)) = true then [UInt8.ofNat (16 * x + y)] else [37, hexU x, hexU y]
def dec : List UInt8 → Option (List UInt8)
  | [] => some []
  | [c] => if c = 37 then none else some [c]
  | [c, a] => if c = 37 then none else (dec [a]).map (c :: ·)
  | c :: a :: b :: r => if c = 37 then (match hexv a, hexv b with | some x, some y => (dec r).map (code x y ++ ·) | _, _ => none) else (dec (a :: b :: r)).map (c :: ·)
theorem hexv_lt {c : UInt8} {x : Nat} (h : hexv c = some x) : x < 16 := by
  unfold hexv at h
  split at h
  · cases h; omega
  · split at h
    · cases h; omega
    · split at h
      · cases h; omega
      · cases h
theorem upper_all : ∀ n : Fin 256, (match hexv (UInt8.ofNat n.val) with | some x => Lib.upperB (UInt8.ofNat n.val) == hexU x | none => true) = true := by decide +kernel
theorem u8_fin (c : UInt8) : ∃ n : Fin 256, c = UInt8.ofNat n.val := ⟨⟨c.toNat, c.toNat_lt⟩, by simp⟩
theorem upper_hex {c : UInt8} {x : Nat} (h : hexv c = some x) : Lib.upperB c = hexU x := by
  obtain ⟨n, rfl⟩ := u8_fin c
  have := upper_all n
  rw [h] at this
  simpa using this
theorem dec_nil : dec [] = some [] := rfl
theorem dec_plain {c : UInt8} (r : List UInt8) (h : c ≠ 37) : dec (c :: r) = (dec r).map (c :: ·) := by
  match r with
  | [] => simp [dec, h]
  | [a] => simp [dec, h]
  | a :: b :: r => rw [dec, if_neg h]
theorem dec_code {a b : UInt8} {x y : Nat} (r : List UInt8) (ha : hexv a = some x) (hb : hexv b = some y) : dec (37 :: a :: b :: r) = (dec r).map (code x y ++ ·) := by
  rw [dec, if_pos rfl, ha, hb]
theorem dec_bad {a b : UInt8} (r : List UInt8) (h : hexv a = none ∨ hexv b = none) : dec (37 :: a :: b :: r) = none := by
  rw [dec, if_pos rfl]
  rcases h with h | h
  · rw [h]
  · rw [h]; cases hexv a <;> rfl
theorem dec_short {r : List UInt8} (h : r.length < 2) : dec (37 :: r) = none := by
  match r, h with
  | [], _ => rfl
  | [a], _ => rfl
theorem dec_app : ∀ (h r : List UInt8), (∀ b ∈ h, b ≠ 37) → dec (h ++ r) = (dec r).map (h ++ ·)
  | [], r, _ => by cases h : dec r <;> simp [h]
  | b :: t, r, hh => by
    rw [List.cons_append, dec_plain _ (hh b (by simp)), dec_app t r fun x hx => hh x (by simp [hx]), Option.map_map]; rfl
theorem dec_cut (s : List UInt8) : dec s = (dec (cutR 37 s)).map (cutA 37 s ++ ·) := by
  rw [← dec_app _ _ (cutA_free 37 s), cut_app]
/- segments -/
def splitc (c : UInt8) : List UInt8 → List (List UInt8)
  | [] => [[]]
  | b :: r => if b = c then [] :: splitc c r else (b :: (splitc c r).headD []) :: (splitc c r).tail
theorem splitc_ne (c : UInt8) : ∀ s, splitc c s ≠ []
  | [] => by simp [splitc]
  | b :: r => by unfold splitc; split <;> simp
theorem splitc_cut (c : UInt8) : ∀ s : List UInt8, splitc c s = if hasC c s = true then cutA c s :: splitc c (cutB c s) else [s]
  | [] => rfl
  | b :: r => by
    by_cases hb : b = c
    · subst hb
      rw [hasC_eq, cutA_eq, cutB_eq, if_pos rfl, splitc, if_pos rfl]
    · rw [hasC_ne r hb, cutA_ne r hb, cutB_ne r hb, splitc, if_neg hb, splitc_cut c r]
      cases hasC c r <;> rfl
theorem splitc_yes {c : UInt8} {s : List UInt8} (h : hasC c s = true) : splitc c s = cutA c s :: splitc c (cutB c s) := by rw [splitc_cut, if_pos h]
theorem splitc_no {c : UInt8} {s : List UInt8} (h : hasC c s = false) : splitc c s = [s] := by rw [splitc_cut, h]; rfl
theorem splitc_of {c : UInt8} {h : List UInt8} (hh : ∀ b ∈ h, b ≠ c) (t : List UInt8) : splitc c (h ++ c :: t) = h :: splitc c t := by
  have := cut_of t h hh
  have h1 : hasC c (h ++ c :: t) = true := by unfold hasC; rw [this.2]; rfl
  rw [splitc_yes h1, this.1]; unfold cutB; rw [this.2]; rfl
theorem splitc_one {c : UInt8} {h : List UInt8} (hh : ∀ b ∈ h, b ≠ c) : splitc c h = [h] := by
  have := cut_none h hh
  exact splitc_no (by unfold hasC; rw [this.2]; rfl)
theorem splitc_len (c : UInt8) : ∀ s : List UInt8, (splitc c s).length = s.count c + 1
  | [] => rfl
  | b :: r => by
    have ih := splitc_len c r
    unfold splitc
    by_cases hb : b = c
    · subst hb; simp [ih]
    · rw [if_neg hb, List.length_cons, List.length_tail, ih, List.count_cons, if_neg (by simpa using hb)]; simp
theorem lib_splitK (c : UInt8) : ∀ (k : Nat) (s : List UInt8), s.count c ≤ k → Lib.splitK [c] 0 k s = splitc c s
  | 0, s, h => by
    have hn : hasC c s = false := by
      rw [Bool.eq_false_iff]; intro hy
      have := cut_join hy
      have : 0 < s.count c := by rw [this]; simp; omega
      omega
    rw [splitc_no hn]; rfl
  | k + 1, s, h => by
    unfold Lib.splitK
    rw [lib_index]
    cases hy : hasC c s
    · rw [splitc_no hy]; rfl
    · have hj := cut_join hy
      simp only [if_true]
      rw [if_neg (by rw [beq_iff_eq]; omega), splitc_yes hy]
      have e1 : s.take (cutA c s).length = cutA c s := by conv => lhs; arg 2; rw [hj]
                                                          simp
      have e2 : s.drop ((cutA c s).length + 1) = cutB c s := by conv => lhs; arg 2; rw [hj]
                                                                rw [List.drop_append, List.drop_eq_nil_of_le (by omega)]; simp
      simp only [Int.toNat_natCast, List.length_cons, List.length_nil, Nat.zero_add, Nat.add_zero]
      have h2 : (cutA c s ++ c :: cutB c s).count c = (cutA c s).count c + ((cutB c s).count c + 1) := by simp [List.count_append]
      rw [← hj] at h2
      have hc : (cutB c s).count c ≤ k := by omega
      rw [e1, e2, lib_splitK c k _ hc]
theorem splitc_pieces {c : UInt8} : ∀ {s p : List UInt8}, p ∈ splitc c s → (∀ b ∈ p, b ≠ c) ∧ (∀ b ∈ p, b ∈ s)
  | [], p, h => by simp [splitc] at h; subst h; simp
  | x :: r, p, h => by
    unfold splitc at h
    by_cases hx : x = c
    · rw [if_pos hx] at h
      rcases List.mem_cons.1 h with rfl | h
      · simp
      · have := splitc_pieces (s := r) h
        exact ⟨this.1, fun b hb => by simp [this.2 b hb]⟩
    · rw [if_neg hx] at h
      obtain ⟨q, t, hq⟩ : ∃ q t, splitc c r = q :: t := by cases hs : splitc c r with
        | nil => exact absurd hs (splitc_ne c r)
        | cons q t => exact ⟨q, t, rfl⟩
      rw [hq] at h
      simp only [List.headD_cons, List.tail_cons, List.mem_cons] at h
      rcases h with rfl | h
      · have := splitc_pieces (s := r) (p := q) (by rw [hq]; simp)
        refine ⟨fun b hb => ?_, fun b hb => ?_⟩
        · rcases List.mem_cons.1 hb with rfl | hb
          · exact hx
          · exact this.1 b hb
        · rcases List.mem_cons.1 hb with rfl | hb
          · simp
          · simp [this.2 b hb]
      · have := splitc_pieces (s := r) (p := p) (by rw [hq]; simp [h])
        exact ⟨this.1, fun b hb => by simp [this.2 b hb]⟩
def dotB (s : List UInt8) : Bool := s == [46] || s == [46, 46]
/-- The segments of a path, one step. -/
def seg (out : List (List UInt8)) (s : List UInt8) : List (List UInt8) := if s = [46, 46] then out.dropLast else if s = [46] then out else out ++ [s]
def segsL (p : List UInt8) : List (List UInt8) := (splitc 47 p).foldl seg []
def flatL (l : List (List UInt8)) : List UInt8 := (l.map (47 :: ·)).flatten
theorem flatL_app (a b : List (List UInt8)) : flatL (a ++ b) = flatL a ++ flatL b := by unfold flatL; simp
def lastDot (p : List UInt8) : Bool := dotB ((splitc 47 p).getLastD [])
/-- All segments of the normal path. -/
def outL (p : List UInt8) : List (List UInt8) := if lastDot p = true then segsL p ++ [[]] else segsL p
def tidyL (p : List UInt8) : List UInt8 := if p = [] then [47] else flatL (outL (p.drop 1))
theorem join_flat (x : List UInt8) (r : List (List UInt8)) : 47 :: Lib.join (x :: r) [47] = flatL (x :: r) := by
  rw [Lib.join_cons]; unfold flatL Lib.joinTail; simp
/- whole addresses -/
def okC (c : UInt8) : Bool := decide (33 ≤ c.toNat) && (decide (c.toNat ≤ 126) && !(c == 35))
def portD (d : List UInt8) : Int := if d = [] then 80 else portV d
def behind (h d q : List UInt8) : Tgt × Int :=
  if hostB h = false then (noT, 32) else if portD d = 0 then (noT, 33) else match dec q with
    | none => (noT, 30)
    | some r => ((fold h, portD d, tidyL (cutA 63 r) ++ cutR 63 r), 0)
def parseL (s : List UInt8) : Tgt × Int :=
  if 4096 < s.length then (noT, 101) else if s.all okC = false then (noT, 30) else if fold (s.take 7) ≠ sch then (noT, 31)
  else behind (cutA 58 (nameS (s.drop 7))) (cutB 58 (nameS (s.drop 7))) (restS (s.drop 7))
end Ur
end Go.Proofs.YtgkphjbcaidcpaaGreatDoor
set_option linter.unusedVariables false
set_option linter.unusedSimpArgs false
namespace Go.Proofs.YtgkphjbcaidcpaaGreatDoor
open Go.RowKit

namespace Ac
abbrev T := List UInt8
/- words -/
def blk (b : UInt8) : Bool := b == 32 || b == 9
def wordsA : T → T → List T
  | acc, [] => if acc = [] then [] else [acc]
  | acc, b :: r => if blk b = true then (if acc = [] then wordsA [] r else acc :: wordsA [] r) else wordsA (acc ++ [b]) r
def words (s : T) : List T := wordsA [] s
/- numbers -/
/-- The number of so many digits at most. -/
def num (s : T) (d m : Nat) : Option Nat := if s.length ≤ d then (match Lib.decNat s with | some n => if n ≤ m then some n else none | none => none) else none
/- networks -/
def octs : List T → Option (List Nat)
  | [] => some []
  | s :: r => match num s 3 255 with | some n => (octs r).map (n :: ·) | none => none
def addr (l : List Nat) : Nat := l.foldl (fun v n => (v % 16777216) * 256 + n) 0
def net4 (a : T) (bits : Nat) : Option (Nat × Nat) := match octs (Ur.splitc 46 a) with | some l => if l.length = 4 then some (addr l, bits) else none | none => none
def net (s : T) : Option (Nat × Nat) :=
  if Ur.hasC 47 s = true then (match num (Ur.cutB 47 s) 2 32 with | some b => net4 (Ur.cutA 47 s) b | none => none) else net4 s 32
def both (x y : Option Nat) : Option (Nat × Nat) := match x, y with | some a, some b => some (a, b) | _, _ => none
theorem both_l (y : Option Nat) : both none y = none := by cases y <;> rfl
theorem both_r (x : Option Nat) : both x none = none := by cases x <;> rfl
theorem both_s (a b : Nat) : both (some a) (some b) = some (a, b) := rfl
/- ports -/
def prtOK (p : Nat × Nat) : Option (Nat × Nat) := if 1 ≤ p.1 ∧ p.1 ≤ p.2 then some p else none
def prt (s : T) : Option (Nat × Nat) :=
  if Ur.hasC 45 s = true then (both (num (Ur.cutA 45 s) 5 65535) (num (Ur.cutB 45 s) 5 65535)).bind prtOK
  else (both (num s 5 65535) (num s 5 65535)).bind prtOK
/- times -/
def clk (s : T) : Option Nat :=
  if s.length = 5 ∧ s[2]? = some 58 then (both (num (s.take 2) 2 23) (num (s.drop 3) 2 59)).map fun p => p.1 * 3600 + p.2 * 60 else none
def win (s : T) : Option (Nat × Nat) :=
  if s.length = 11 ∧ s[5]? = some 45 then both (clk (s.take 5)) (clk (s.drop 6)) else none
/- tokens -/
def tokB (c : UInt8) : Bool := decide (48 ≤ c.toNat ∧ c.toNat ≤ 57 ∨ 97 ≤ c.toNat ∧ c.toNat ≤ 122 ∨ 65 ≤ c.toNat ∧ c.toNat ≤ 90) || decide (c.toNat ∈ [33, 35, 36, 37, 38, 39, 42, 43, 45, 46, 94, 95, 124, 126, 96])
def tok (s : T) : Bool := !s.isEmpty && s.all tokB
/- hosts -/
def hostB (c : UInt8) : Bool := decide (48 ≤ c.toNat ∧ c.toNat ≤ 57 ∨ 97 ≤ c.toNat ∧ c.toNat ≤ 122 ∨ 65 ≤ c.toNat ∧ c.toNat ≤ 90 ∨ c.toNat = 45 ∨ c.toNat = 46)
/- patterns -/
def gm : T → T → Bool
  | [], s => s.isEmpty
  | c :: p, [] => if c = 42 then gm p [] else false
  | c :: p, d :: s => if c = 42 then gm p (d :: s) || gm (c :: p) s else c == d && gm p s
termination_by p s => (p.length, s.length)
/-- What a caller is asked by. -/
structure Ask where
  src : Int
  host : T
  port : Int
  meth : T
  path : T
  now : Int
def srcT : T := [115, 114, 99]
def hostT : T := [104, 111, 115, 116]
def portT : T := [112, 111, 114, 116]
def methT : T := [109, 101, 116, 104, 111, 100]
def pathT : T := [112, 97, 116, 104]
def timeT : T := [116, 105, 109, 101]
def good (k v : T) : Bool :=
  if k = srcT then (net v).isSome else if k = hostT then v.all hostB else if k = portT then (prt v).isSome else if k = methT then tok v else if k = pathT then true else if k = timeT then (win v).isSome else false
def holds (k v : T) (a : Ask) : Bool :=
  if k = srcT then (match net v with | some (n, b) => (a.src % 4294967296).toNat / 2 ^ (32 - b) == n / 2 ^ (32 - b) | none => false)
  else if k = hostT then (if (fold v).head? = some 46 then (fold a.host == (fold v).drop 1 || sufB (fold v) (fold a.host)) else fold a.host == fold v)
  else if k = portT then (match prt v with | some (x, y) => decide ((x : Int) ≤ a.port) && decide (a.port ≤ (y : Int)) | none => false)
  else if k = methT then a.meth == v
  else if k = pathT then gm v a.path
  else (match win v with
    | some (x, y) => if x < y then decide ((x : Int) ≤ (max a.now 0) % 86400) && decide ((max a.now 0) % 86400 < (y : Int)) else decide ((x : Int) ≤ (max a.now 0) % 86400) || decide ((max a.now 0) % 86400 < (y : Int))
    | none => false)
/- elements and rules -/
structure El where
  nm : T
  kd : T
  vs : List T
structure Ru where
  ln : Nat
  al : Bool
  ns : List T
structure LS where
  els : List El
  rus : List Ru
def atI (els : List El) (n : T) : Option Nat := els.findIdx? fun e => e.nm == n
def bare (s : T) : T := if s.head? = some 33 then s.drop 1 else s
def bang (s : T) : Bool := s.head? == some 33
def aclT : T := [97, 99, 108]
def allowT : T := [97, 108, 108, 111, 119]
def denyT : T := [100, 101, 110, 121]
/-- An element's line: name, kind and values. -/
def define (L : LS) (w : List T) : Option LS := match w with
  | nm :: k :: v :: vs =>
    if tok nm = true ∧ (v :: vs).all (good k) = true then
      (match atI L.els nm with
       | none => some ⟨L.els ++ [⟨nm, k, v :: vs⟩], L.rus⟩
       | some i => match L.els[i]? with
         | some e => if e.kd = k then some ⟨L.els.set i ⟨e.nm, e.kd, e.vs ++ (v :: vs)⟩, L.rus⟩ else none
         | none => none)
    else none
  | _ => none
def ruleL (L : LS) (no : Nat) (al : Bool) (ns : List T) : Option LS :=
  if ns.all (fun n => (atI L.els (bare n)).isSome) = true then some ⟨L.els, L.rus ++ [⟨no, al, ns⟩]⟩ else none
def line (L : LS) (no : Nat) (w : List T) : Option LS := match w with
  | [] => none
  | h :: r => if h = aclT then define L r else if h = allowT then ruleL L no true r else if h = denyT then ruleL L no false r else none
def said (w : List T) : Bool := match w with | [] => false | h :: _ => !(h.head? == some 35)
def LS.nil : LS := ⟨[], []⟩
/-- From the line behind the first no lines: the list, the line and the error. -/
def parseF (L : LS) (no : Nat) : List T → LS × Nat × Int
  | [] => (L, 0, 0)
  | s :: r => if said (words s) = true then (match line L (no + 1) (words s) with | none => (LS.nil, no + 1, 210) | some L' => parseF L' (no + 1) r) else parseF L (no + 1) r
def parseLs (ls : List T) : LS × Nat × Int := if ls.length > 200 then (LS.nil, 0, 101) else parseF LS.nil 0 ls
def parse (s : T) : LS × Nat × Int := parseLs (Ur.splitc 10 s)
def elH (e : El) (a : Ask) : Bool := e.vs.any fun v => holds e.kd v a
def named (L : LS) (n : T) (a : Ask) : Bool := match atI L.els n with
  | some i => match L.els[i]? with | some e => elH e a | none => false
  | none => false
def ruleM (L : LS) (r : Ru) (a : Ask) : Bool := r.ns.all fun n => named L (bare n) a != bang n
def decide_ (L : LS) (a : Ask) : Bool × Nat := match L.rus.find? fun r => ruleM L r a with | some r => (r.al, r.ln) | none => (L.rus.isEmpty, 0)
end Ac
end Go.Proofs.YtgkphjbcaidcpaaGreatDoor
set_option linter.unusedVariables false
set_option linter.unusedSimpArgs false
namespace Go.Proofs.YtgkphjbcaidcpaaGreatDoor
open Go.RowKit

set_option maxRecDepth 100000
theorem trimA_any (s : List UInt8) (w : World) (hs : s.length ≤ 4398046511104) :
    Calls Tryz.prog 72 #[.string (bs s), .string (bs digS)] w fun e w' => e = .returned (.string (bs (Lib.trimS s digS))) ∧ Below w.heap.size w w' :=
  Tryz.strings_Trim_set (bs s) (bs digS) w (by simp; omega) (by decide) (ascii_of_all (by decide))
theorem Ac.num_yes {s : List UInt8} {d m n : Nat} (hd : d ≤ 18) (h : Ac.num s d m = some n) : s ≠ [] ∧ s.length ≤ d ∧ s.all digB = true ∧ n ≤ m ∧ numL s = (n : Int) := by
  unfold Ac.num at h
  split at h
  · rename_i hl
    cases hn : Lib.decNat s with
    | none => rw [hn] at h; cases h
    | some k =>
      rw [hn] at h
      simp only at h
      split at h
      · cases h
        refine ⟨?_, hl, ?_, by assumption, ?_⟩
        · rintro rfl; cases hn
        · cases ha : s.all digB with
          | true => rfl
          | false =>
            have := numL_bad ha
            unfold numL at this
            rw [if_pos (by omega), hn] at this
            exact absurd this (by simp only; omega)
        · unfold numL; rw [if_pos (by omega), hn]
      · cases h
  · cases h
theorem Ac.num_no {s : List UInt8} {d m : Nat} (hd : d ≤ 18) (h : Ac.num s d m = none) : s = [] ∨ d < s.length ∨ s.all digB = false ∨ (s ≠ [] ∧ s.length ≤ d ∧ s.all digB = true ∧ ∃ n : Nat, numL s = (n : Int) ∧ m < n) := by
  by_cases h0 : s = []
  · exact .inl h0
  by_cases h1 : d < s.length
  · exact .inr (.inl h1)
  cases ha : s.all digB with
  | false => exact .inr (.inr (.inl rfl))
  | true =>
    refine .inr (.inr (.inr ⟨h0, by omega, rfl, ?_⟩))
    obtain ⟨n, e, _, _, _⟩ := numL_good ha h0 (by omega)
    refine ⟨n, e, ?_⟩
    unfold Ac.num at h
    rw [if_pos (by omega)] at h
    unfold numL at e
    rw [if_pos (by omega)] at e
    cases hn : Lib.decNat s with
    | none => rw [hn] at e; exact absurd e (by simp only; omega)
    | some k =>
      rw [hn] at h e
      simp only at h e
      split at h
      · cases h
      · omega
set_option maxHeartbeats 1000000 in
theorem acnum_any (s : List UInt8) (d m : Nat) (w : World) (hs : s.length ≤ 4398046511104) (hd : d ≤ 18) (hm : m ≤ 1000000) :
    Calls Tryz.prog 65 #[.string (bs s), .int .i64 (d : Int), .int .i64 (m : Int)] w fun e w' => (∃ v : Int, e = .returned (.tuple #[.int .i64 v, .bool (Ac.num s d m).isSome]) ∧ ∀ n : Nat, Ac.num s d m = some n → v = (n : Int)) ∧ Below w.heap.size w w' := by
  have HD : Hid (digS = [48, 49, 50, 51, 52, 53, 54, 55, 56, 57]) := Lib.hid rfl
  have hT := trimA_any s w hs
  rw [HD.out] at hT
  have good : ∀ (n : Nat) (ok : Bool), s ≠ [] → s.length ≤ d → s.all digB = true → numL s = (n : Int) → decide ((n : Int) ≤ (m : Int)) = ok → Calls Tryz.prog 65 #[.string (bs s), .int .i64 (d : Int), .int .i64 (m : Int)] w fun e w' => e = .returned (.tuple #[.int .i64 (n : Int), .bool ok]) ∧ Below w.heap.size w w' := by
    intro n ok h0 hl ha hn hok
    have hp : Lib.trimS s [48, 49, 50, 51, 52, 53, 54, 55, 56, 57] = [] := by rw [← HD.out]; exact trimDig_nil ha
    rw [hp] at hT
    obtain ⟨m0, e0, hm2, hdf, hat⟩ := numL_good ha h0 (by omega)
    have hnm : n = m0 := by omega
    subst hnm
    have HAt := Lib.hid hat
    have hm3 : (n : Int) < 1000000000000000000 := by omega
    have hm4 : 0 ≤ (n : Int) := by omega
    have he : s.isEmpty = false := by cases s with
      | nil => exact absurd rfl h0
      | cons a b => rfl
    have hgt : ¬ ((d : Int) < (s.length : Int)) := by omega
    have hl18 : s.length ≤ 18 := by omega
    clear hp ha h0 hn e0 hm2 hdf hat hl
    generalize (n : Int) = nn at *
    generalize (m : Int) = mm at *
    generalize (d : Int) = dd at *
    have HOK := Lib.hid hok
    clear hok
    go_enter Tryz.func65, Tryz.ntmps65
    go_wp2_with fail
    refine hT.mono ?_
    rintro e w1 ⟨rfl, hb1⟩
    go_wp2_with fail
    refine (Tryz.strconv_Atoi (bs s) nn (by simp; omega) HAt.out _).mono ?_
    rintro e w4 ⟨rfl, tt, rfl⟩
    have hb4 := bytesWorld_below w1 5 tt
    generalize Lib.bytesWorld w1 5 tt = w4 at *
    have HOK2 := HOK.out
    go_wp2
    go_ret2
    exact ⟨rfl, bnext hb1 hb4 hb1.size⟩
  cases hn : Ac.num s d m with
  | some n =>
    obtain ⟨h0, h1, h2, h3, h4⟩ := Ac.num_yes hd hn
    refine (good n true h0 h1 h2 h4 (decide_eq_true (by omega))).mono ?_
    rintro e w' ⟨rfl, hb⟩
    exact ⟨⟨_, rfl, fun k hk => by cases hk; rfl⟩, hb⟩
  | none =>
    have fin : ∀ (v : Int) e w', e = Ending.returned (.tuple #[.int .i64 v, .bool false]) ∧ Below w.heap.size w w' → (∃ v : Int, e = .returned (.tuple #[.int .i64 v, .bool (none : Option Nat).isSome]) ∧ ∀ n : Nat, (none : Option Nat) = some n → v = (n : Int)) ∧ Below w.heap.size w w' := fun v e w' h => ⟨⟨v, h.1, fun n hn => by cases hn⟩, h.2⟩
    rcases Ac.num_no hd hn with h | h | h | ⟨h0, h1, h2, n, h3, h4⟩
    · refine Calls.mono (R := fun e w' => e = Ending.returned (.tuple #[.int .i64 0, .bool false]) ∧ Below w.heap.size w w') ?_ (fin 0)
      subst h
      clear hn hT good fin
      generalize (m : Int) = mm at *
      generalize (d : Int) = dd at *
      go_enter Tryz.func65, Tryz.ntmps65
      go_wp2
      go_ret2
      exact ⟨rfl, Below.refl _ _⟩
    · refine Calls.mono (R := fun e w' => e = Ending.returned (.tuple #[.int .i64 0, .bool false]) ∧ Below w.heap.size w w') ?_ (fin 0)
      have he : s.isEmpty = false := by cases s with
        | nil => simp at h
        | cons a b => rfl
      have hgt : ((d : Int) < (s.length : Int)) := by omega
      clear hn hT good fin h hd
      generalize (m : Int) = mm at *
      generalize (d : Int) = dd at *
      go_enter Tryz.func65, Tryz.ntmps65
      go_wp2
      go_ret2
      exact ⟨rfl, Below.refl _ _⟩
    · refine Calls.mono (R := fun e w' => e = Ending.returned (.tuple #[.int .i64 0, .bool false]) ∧ Below w.heap.size w w') ?_ (fin 0)
      by_cases hgt0 : d < s.length
      · have he : s.isEmpty = false := by cases s with
          | nil => simp at hgt0
          | cons a b => rfl
        have hgt : ((d : Int) < (s.length : Int)) := by omega
        clear hn hT good fin h hd hgt0
        generalize (m : Int) = mm at *
        generalize (d : Int) = dd at *
        go_enter Tryz.func65, Tryz.ntmps65
        go_wp2
        go_ret2
        exact ⟨rfl, Below.refl _ _⟩
      · have hgt : ¬ ((d : Int) < (s.length : Int)) := by omega
        have hp : (Lib.trimS s [48, 49, 50, 51, 52, 53, 54, 55, 56, 57]).isEmpty = false := by
          rw [← HD.out]
          have := trimDig_some h
          cases hp : Lib.trimS s digS with
          | nil => exact absurd hp this
          | cons _ _ => rfl
        have he : s.isEmpty = false := by cases s with
          | nil => simp at h
          | cons a b => rfl
        generalize Lib.trimS s [48, 49, 50, 51, 52, 53, 54, 55, 56, 57] = p at *
        clear hn good fin h hd hgt0
        generalize (m : Int) = mm at *
        generalize (d : Int) = dd at *
        go_enter Tryz.func65, Tryz.ntmps65
        go_wp2_with fail
        refine hT.mono ?_
        rintro e w1 ⟨rfl, hb1⟩
        go_wp2
        go_ret2
        exact ⟨rfl, hb1⟩
    · exact (good n false h0 h1 h2 h3 (decide_eq_false (by omega))).mono (fin n)
def numI (o : Option Nat) : Int := match o with | some n => (n : Int) | none => -1
set_option maxHeartbeats 1000000 in
theorem acnumR_any (s : List UInt8) (d m : Nat) (w : World) (hd : d ≤ 18) (hm : m ≤ 1000000) :
    Calls Tryz.prog 57 #[.string (bs s), .int .i64 (d : Int), .int .i64 (m : Int)] w fun e w' => e = .returned (.int .i64 (numI (Ac.num s d m))) ∧ w = w' := by
  by_cases h1 : s.length < 1
  · have hs : s = [] := List.eq_nil_of_length_eq_zero (by omega)
    subst hs
    have HR : Hid (numI (Ac.num [] d m) = -1) := Lib.hid (by unfold Ac.num; rw [if_pos (by simp)]; rfl)
    generalize numI (Ac.num [] d m) = R at *
    generalize (m : Int) = mm at *
    generalize (d : Int) = dd at *
    go_enter Tryz.func57, Tryz.ntmps57
    go_wp2
    go_ret
    exact ⟨by rw [HR.out]; rfl, rfl⟩
  by_cases h2 : d < s.length
  · have HR : Hid (numI (Ac.num s d m) = -1) := Lib.hid (by unfold Ac.num; rw [if_neg (by omega)]; rfl)
    have g1 : ¬ ((s.length : Int) < 1) := by omega
    have g2 : ((d : Int) < (s.length : Int)) := by omega
    generalize numI (Ac.num s d m) = R at *
    clear hm hd h2 h1
    generalize (m : Int) = mm at *
    generalize (d : Int) = dd at *
    go_enter Tryz.func57, Tryz.ntmps57
    go_wp2
    go_ret
    exact ⟨by rw [HR.out]; rfl, rfl⟩
  have h0 : s ≠ [] := by rintro rfl; simp at h1
  have HB : Hid (∀ (k : Nat) (b : UInt8), s[k]? = some b → digB b = false → numI (Ac.num s d m) = -1) := Lib.hid fun k b h hb => by
    have ha : s.all digB = false := by
      rw [← Bool.not_eq_true, List.all_eq_true]
      intro ha
      have := ha b (mem_of_get? h)
      rw [hb] at this; cases this
    cases hn : Ac.num s d m with
    | none => rfl
    | some n => obtain ⟨_, _, h3, _⟩ := Ac.num_yes hd hn; rw [ha] at h3; cases h3
  have HG : Hid (∀ v : Int, (∃ n : Nat, v = n ∧ Lib.decFrom 0 (s.take s.length) = some n) → (s.take s.length).all digB = true → numI (Ac.num s d m) = if (m : Int) < v then -1 else v) := Lib.hid fun v h ha => by
    obtain ⟨n, rfl, e⟩ := h
    rw [List.take_length] at e ha
    obtain ⟨k, h3, _, h4, _⟩ := numL_good ha h0 (by omega)
    rw [h4] at e; cases e
    cases hn : Ac.num s d m with
    | none =>
      rcases Ac.num_no hd hn with h | h | h | ⟨_, _, _, k, h5, h6⟩
      · exact absurd h h0
      · omega
      · rw [ha] at h; cases h
      · rw [if_pos (by omega)]; rfl
    | some k => obtain ⟨_, _, _, h5, h6⟩ := Ac.num_yes hd hn; rw [if_neg (by omega)]; show (k : Int) = _; omega
  have HP : Hid (∀ k, k < 18 → (10 : Nat) ^ k ≤ 100000000000000000) := Lib.hid fun k hk => by
    have h17 : (10 : Nat) ^ k ≤ 10 ^ 17 := Nat.pow_le_pow_right (by omega) (by omega)
    have e17 : (10 : Nat) ^ 17 = 100000000000000000 := by simp
    rwa [e17] at h17
  have g0 : ¬ ((s.length : Int) < 1) := by omega
  have g00 : ¬ ((d : Int) < (s.length : Int)) := by omega
  have hl18 : s.length ≤ 18 := by omega
  generalize numI (Ac.num s d m) = R at *
  clear h2 h1 h0 hd hm
  generalize (m : Int) = mm at *
  generalize (d : Int) = dd at *
  go_enter Tryz.func57, Tryz.ntmps57
  go_wp2
  go_loop [7, 8] (fun v t => ∃ (k : Nat) (x : Int), k ≤ s.length ∧ t = .int .i64 k ∧ v = .int .i64 x ∧ 0 ≤ x ∧ x < 1000000000000000000 ∧ Hid ((s.take k).all digB = true) ∧ Hid (∃ n : Nat, x = n ∧ Lib.decFrom 0 (s.take k) = some n ∧ n < 10 ^ k)) (fun _ t => s.length - (intOf t).toNat)
  case atStart => exact ⟨0, 0, by omega, rfl, rfl, by omega, by omega, Lib.hid rfl, Lib.hid ⟨0, rfl, rfl, by simp⟩⟩
  case round =>
    obtain ⟨k, x, hk, rfl, rfl, hx0, hx1, HA, HX⟩ := hrel
    by_cases hlt : k < s.length
    · cases hd : digB s[k]
      · have HR := Lib.hid (HB.out k _ (List.getElem?_eq_getElem hlt) hd)
        have hd2 := of_decide_eq_false hd
        clear hd HB HG HA HX HP
        by_cases h48 : s[k].toNat < 48
        · have g1 : ((s[k].toNat : Int) < 48) := by omega
          go_wp2
          go_ret
          exact ⟨by rw [HR.out]; rfl, rfl⟩
        · have g1 : ¬ ((s[k].toNat : Int) < 48) := by omega
          have g2 : ((57 : Int) < (s[k].toNat : Int)) := by omega
          go_wp2
          go_ret
          exact ⟨by rw [HR.out]; rfl, rfl⟩
      · have hd2 := of_decide_eq_true hd
        have hx17 : x < 100000000000000000 := by
          obtain ⟨n, rfl, _, hn⟩ := HX.out
          have := HP.out k (by omega)
          omega
        have HA2 : Hid ((s.take (k + 1)).all digB = true) := Lib.hid (by rw [all_snoc digB s k hlt, HA.out, hd]; rfl)
        have HX2 : Hid (∃ n : Nat, x * 10 + (s[k].toNat : Int) - 48 = n ∧ Lib.decFrom 0 (s.take (k + 1)) = some n ∧ n < 10 ^ (k + 1)) := Lib.hid (by
          obtain ⟨n, e, h3, h4⟩ := HX.out
          refine ⟨n * 10 + (s[k].toNat - 48), by omega, Lib.decFrom_take s k 0 n s[k] _ h3 (List.getElem?_eq_getElem hlt) (digitVal_yes hd), ?_⟩
          rw [Nat.pow_succ]; omega)
        have g1 : ¬ ((s[k].toNat : Int) < 48) := by omega
        have g2 : ¬ ((57 : Int) < (s[k].toNat : Int)) := by omega
        obtain ⟨cv, hcv⟩ : ∃ cv : Int, cv = (s[k].toNat : Int) := ⟨_, rfl⟩
        clear hd HB HG HA HX HP
        go_wp2
        go_round
        case rel => exact ⟨k + 1, x * 10 + (s[k].toNat : Int) - 48, by omega, by go_num, by go_num, by omega, by omega, HA2, HX2⟩
        case measure => simp [intOf]; omega
    · obtain rfl : k = s.length := by omega
      have HR := Lib.hid (HG.out x (by obtain ⟨n, e, h3, _⟩ := HX.out; exact ⟨n, e, h3⟩) HA.out)
      clear HG HB HA HX HP
      by_cases hmx : mm < x
      · rw [if_pos hmx] at HR
        go_wp2
        go_ret
        exact ⟨by rw [HR.out]; rfl, rfl⟩
      · rw [if_neg hmx] at HR
        go_wp2
        go_ret
        exact ⟨by rw [HR.out]; rfl, rfl⟩
end Go.Proofs.YtgkphjbcaidcpaaGreatDoor
