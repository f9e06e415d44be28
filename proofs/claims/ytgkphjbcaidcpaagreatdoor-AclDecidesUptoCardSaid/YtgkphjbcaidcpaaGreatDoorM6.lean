/- Joined texts: Patterns with stars: the table of prefixes and the leftmost search give the same answer. Plain laws; (every seat) The library's variable MaxLen holds some int; strings.Cut at one byte; The reference's Lower: letters A to Z made small; The library's HasPrefix, HasSuffix, CutPrefix, CutSuffix, walked; What the values but patterns hold for. The conditions stand in each line. -/
import Derived.Test.YtgkphjbcaidcpaaGreatDoorChecked
import Derived.Test.YtgkphjbcaidcpaaGreatDoorM1
import Derived.Test.YtgkphjbcaidcpaaGreatDoorM2
import Derived.Test.YtgkphjbcaidcpaaGreatDoorM5
import Derived.Lib.IndexMore
import Derived.Shelf.Vars
import Derived.Laws.BitsLemmas
set_option linter.unusedVariables false
set_option linter.unusedSimpArgs false
namespace Go.Proofs.YtgkphjbcaidcpaaGreatDoor
open Go.RowKit

namespace Ac
/-- What a pattern stands for. -/
inductive M : T → T → Prop
  | nil : M [] []
  | star {p s : T} : M p s → M (42 :: p) s
  | skip {p s : T} {c : UInt8} : M (42 :: p) s → M (42 :: p) (c :: s)
  | ch {p s : T} {c : UInt8} : c ≠ 42 → M p s → M (c :: p) (c :: s)
theorem gm_to : ∀ p s, gm p s = true → M p s
  | [], [], _ => .nil
  | [], d :: s, h => by simp [gm] at h
  | c :: p, [], h => by
    by_cases hc : c = 42
    · subst hc; rw [gm, if_pos rfl] at h; exact .star (gm_to p [] h)
    · rw [gm, if_neg hc] at h; cases h
  | c :: p, d :: s, h => by
    by_cases hc : c = 42
    · subst hc
      rw [gm, if_pos rfl, Bool.or_eq_true] at h
      rcases h with h | h
      · exact .star (gm_to p (d :: s) h)
      · exact .skip (gm_to (42 :: p) s h)
    · rw [gm, if_neg hc, Bool.and_eq_true, beq_iff_eq] at h
      obtain ⟨rfl, h⟩ := h
      exact .ch hc (gm_to p s h)
termination_by p s => (p.length, s.length)
theorem gm_of {p s : T} (h : M p s) : gm p s = true := by
  induction h with
  | nil => simp [gm]
  | @star p s h ih => cases s with
    | nil => rw [gm, if_pos rfl]; exact ih
    | cons d s => rw [gm, if_pos rfl, ih]; rfl
  | skip h ih => rw [gm, if_pos rfl, ih]; simp
  | ch hc h ih => rw [gm, if_neg hc, ih]; simp
theorem gm_iff {p s : T} : gm p s = true ↔ M p s := ⟨gm_to p s, gm_of⟩
theorem M.app_star {p s : T} (h : M p s) : M (p ++ [42]) s := by
  induction h with
  | nil => exact .star .nil
  | star _ ih => exact .star ih
  | skip _ ih => exact .skip ih
  | ch hc _ ih => exact .ch hc ih
theorem M.app_skip {q s : T} (h : M q s) (hq : q.getLast? = some 42) (c : UInt8) : M q (s ++ [c]) := by
  induction h with
  | nil => cases hq
  | @star p s h ih =>
    cases p with
    | nil => cases h; exact .skip (.star .nil)
    | cons a p => exact .star (ih (by simpa using hq))
  | skip h ih => exact .skip (ih hq)
  | @ch p s c hc h ih =>
    cases p with
    | nil => simp at hq; exact absurd hq hc
    | cons a p => exact .ch hc (ih (by simpa using hq))
theorem M.app_ch {p s : T} {c : UInt8} (hc : c ≠ 42) (h : M p s) : M (p ++ [c]) (s ++ [c]) := by
  induction h with
  | nil => exact .ch hc .nil
  | star _ ih => exact .star ih
  | skip _ ih => exact .skip ih
  | ch hd _ ih => exact .ch hd ih
theorem M.rev {p s : T} (h : M p s) : M p.reverse s.reverse := by
  induction h with
  | nil => exact .nil
  | star _ ih => rw [List.reverse_cons]; exact ih.app_star
  | @skip p s c _ ih => rw [List.reverse_cons (a := c)]; exact ih.app_skip (by simp) _
  | ch hc _ ih => rw [List.reverse_cons, List.reverse_cons]; exact ih.app_ch hc
theorem gm_rev (p s : T) : gm p.reverse s.reverse = gm p s := by
  rw [Bool.eq_iff_iff, gm_iff, gm_iff]
  constructor
  · intro h; have := h.rev; rwa [List.reverse_reverse, List.reverse_reverse] at this
  · exact M.rev
/-- The table's rules. -/
theorem gm_nil (s : T) : gm [] s = s.isEmpty := by cases s <;> simp [gm]
theorem gm_snoc_star0 (p : T) : gm (p ++ [42]) [] = gm p [] := by
  rw [← gm_rev (p ++ [42]), ← gm_rev p, List.reverse_append]
  show gm (42 :: p.reverse) [] = _
  rw [gm, if_pos rfl]; rfl
theorem gm_snoc_star (p s : T) (d : UInt8) : gm (p ++ [42]) (s ++ [d]) = (gm p (s ++ [d]) || gm (p ++ [42]) s) := by
  rw [← gm_rev (p ++ [42]), ← gm_rev p, ← gm_rev (p ++ [42]) s, List.reverse_append, List.reverse_append]
  show gm (42 :: p.reverse) (d :: s.reverse) = (gm _ (d :: s.reverse) || gm (42 :: p.reverse) _)
  rw [gm, if_pos rfl]
theorem gm_snoc_ch0 (p : T) {c : UInt8} (hc : c ≠ 42) : gm (p ++ [c]) [] = false := by
  rw [← gm_rev (p ++ [c]), List.reverse_append]
  show gm (c :: p.reverse) [] = _
  rw [gm, if_neg hc]
theorem gm_snoc_ch (p s : T) {c : UInt8} (hc : c ≠ 42) (d : UInt8) : gm (p ++ [c]) (s ++ [d]) = (c == d && gm p s) := by
  rw [← gm_rev (p ++ [c]), ← gm_rev p, List.reverse_append, List.reverse_append]
  show gm (c :: p.reverse) (d :: s.reverse) = _
  rw [gm, if_neg hc]
/-- The parts between the stars. -/
def MP : T → List T → T → Prop
  | x, [], s => s = x
  | x, y :: r, s => ∃ u v, s = x ++ (u ++ v) ∧ MP y r v
theorem M_star {p s : T} : M (42 :: p) s ↔ ∃ u v, s = u ++ v ∧ M p v := by
  constructor
  · intro h
    generalize hq : 42 :: p = q at h
    induction h with
    | nil => cases hq
    | star h _ => injection hq with _ hq; subst hq; exact ⟨[], _, rfl, h⟩
    | @skip p' s c h ih => obtain ⟨u, v, rfl, hm⟩ := ih hq; exact ⟨c :: u, v, rfl, hm⟩
    | ch hc _ _ => injection hq with hq _; exact absurd hq.symm hc
  · rintro ⟨u, v, rfl, h⟩
    induction u with
    | nil => exact .star h
    | cons c u ih => exact .skip ih
theorem MP_cons (b : UInt8) (x : T) (r : List T) (s : T) : MP (b :: x) r s ↔ ∃ t, s = b :: t ∧ MP x r t := by
  cases r with
  | nil => constructor
           · intro h; exact ⟨x, h, rfl⟩
           · rintro ⟨t, rfl, h⟩; have h : t = x := h; subst h; rfl
  | cons y r => constructor
                · rintro ⟨u, v, rfl, h⟩; exact ⟨_, rfl, u, v, rfl, h⟩
                · rintro ⟨t, rfl, u, v, rfl, h⟩; exact ⟨u, v, rfl, h⟩
theorem M_parts : ∀ (p s : T), M p s ↔ MP ((Ur.splitc 42 p).headD []) (Ur.splitc 42 p).tail s
  | [], s => by
    show M [] s ↔ s = []
    constructor
    · intro h; cases h; rfl
    · rintro rfl; exact .nil
  | b :: p, s => by
    by_cases hb : b = 42
    · subst hb
      rw [Ur.splitc, if_pos rfl, M_star]
      obtain ⟨x, r, hx⟩ : ∃ x r, Ur.splitc 42 p = x :: r := by
        cases h : Ur.splitc 42 p with
        | nil => exact absurd h (Ur.splitc_ne 42 p)
        | cons x r => exact ⟨x, r, rfl⟩
      have ih := fun v => M_parts p v
      rw [hx] at ih ⊢
      show _ ↔ ∃ u v, s = [] ++ (u ++ v) ∧ MP x r v
      constructor
      · rintro ⟨u, v, rfl, h⟩; exact ⟨u, v, rfl, (ih v).1 h⟩
      · rintro ⟨u, v, h, h2⟩; exact ⟨u, v, h, (ih v).2 h2⟩
    · rw [Ur.splitc, if_neg hb]
      show _ ↔ MP (b :: (Ur.splitc 42 p).headD []) (Ur.splitc 42 p).tail s
      rw [MP_cons]
      constructor
      · intro h
        cases h with
        | star _ => exact absurd rfl hb
        | skip _ => exact absurd rfl hb
        | ch _ h => exact ⟨_, rfl, (M_parts p _).1 h⟩
      · rintro ⟨t, rfl, h⟩; exact .ch hb ((M_parts p t).2 h)
/-- The program's search: the parts in the middle, each at its leftmost place; the last one at the end. -/
def cutI (st : Bool × T) (p : T) : Bool × T := if st.1 = true then ((Lib.cut st.2 p).2.2, (Lib.cut st.2 p).2.1) else (false, [])
def gr (mid : List T) (st : Bool × T) : Bool × T := mid.foldl cutI st
def gend (st : Bool × T) (z : T) : Bool := st.1 && sufB z st.2
theorem gr_false (mid : List T) (t : T) : (gr mid (false, t)).1 = false := by
  induction mid generalizing t with
  | nil => rfl
  | cons y r ih => unfold gr; rw [List.foldl_cons]; exact ih _
theorem sufB_iff {z s : T} : sufB z s = true ↔ ∃ u, s = u ++ z := by
  unfold sufB
  rw [beq_iff_eq]
  constructor
  · intro h; exact ⟨s.take (s.length - z.length), by conv => lhs; rw [← List.take_append_drop (s.length - z.length) s, h]⟩
  · rintro ⟨u, rfl⟩; simp
theorem occ_iff {s p : T} {i : Nat} : Lib.occAt s p i = true ↔ ∃ v, s.drop i = p ++ v := by
  unfold Lib.occAt
  rw [List.isPrefixOf_iff_prefix]
  constructor
  · rintro ⟨v, h⟩; exact ⟨v, h.symm⟩
  · rintro ⟨v, h⟩; exact ⟨v, h.symm⟩
/-- The rest behind the leftmost place holds the rest behind any. -/
theorem cut_left {s p u v : T} (h : s = u ++ (p ++ v)) : (Lib.cut s p).2.2 = true ∧ ∃ u', (Lib.cut s p).2.1 = u' ++ v := by
  have ho : Lib.occAt s p u.length = true := occ_iff.2 ⟨v, by subst h; simp⟩
  unfold Lib.cut
  rcases Lib.index_spec s p with ⟨h1, h2⟩ | ⟨i, h1, h2, h3, h4⟩
  · rw [h2 u.length (by subst h; simp)] at ho; cases ho
  · rw [if_pos (by omega), h1]
    refine ⟨rfl, ?_⟩
    have hi : i ≤ u.length := by
      rcases Nat.lt_or_ge u.length i with h9 | h9
      · rw [h4 _ h9] at ho; cases ho
      · exact h9
    simp only [Int.toNat_natCast]
    subst h
    have hlen : (u ++ (p ++ v)).length = u.length + (p.length + v.length) := by simp
    refine ⟨((u ++ (p ++ v)).drop (i + p.length)).take (u.length - i), ?_⟩
    conv => lhs; rw [← List.take_append_drop (u.length - i) ((u ++ (p ++ v)).drop (i + p.length))]
    congr 1
    rw [List.drop_drop, show i + p.length + (u.length - i) = u.length + p.length by omega, ← List.drop_drop, List.drop_left, List.drop_left]
theorem cut_yes {s p : T} (h : (Lib.cut s p).2.2 = true) : ∃ u, s = u ++ (p ++ (Lib.cut s p).2.1) := by
  unfold Lib.cut at *
  rcases Lib.index_spec s p with ⟨h1, h2⟩ | ⟨i, h1, h2, h3, h4⟩
  · rw [if_neg (by omega)] at h; cases h
  · rw [if_pos (by omega), h1]
    obtain ⟨v, hv⟩ := occ_iff.1 h3
    simp only [Int.toNat_natCast]
    refine ⟨s.take i, ?_⟩
    conv => lhs; rw [← List.take_append_drop i s]
    congr 1
    rw [← List.drop_drop, hv, List.drop_left]
theorem gr_iff : ∀ (mid : List T) (z s : T), gend (gr mid (true, s)) z = true ↔ ∃ u v, s = u ++ v ∧ MP ((mid ++ [z]).headD []) (mid ++ [z]).tail v
  | [], z, s => by
    show (true && sufB z s) = true ↔ ∃ u v, s = u ++ v ∧ v = z
    rw [Bool.true_and, sufB_iff]
    constructor
    · rintro ⟨u, rfl⟩; exact ⟨u, z, rfl, rfl⟩
    · rintro ⟨u, v, rfl, rfl⟩; exact ⟨u, rfl⟩
  | y :: r, z, s => by
    have hstep : gr (y :: r) (true, s) = gr r ((Lib.cut s y).2.2, (Lib.cut s y).2.1) := rfl
    rw [hstep]
    obtain ⟨a, t, hat⟩ : ∃ a t, r ++ [z] = a :: t := by cases r with | nil => exact ⟨_, _, rfl⟩ | cons a t => exact ⟨_, _, rfl⟩
    have ih := gr_iff r z
    rw [hat] at ih
    show _ ↔ ∃ u v, s = u ++ v ∧ MP y (r ++ [z]) v
    rw [hat]
    constructor
    · intro h
      cases hc : (Lib.cut s y).2.2 with
      | false => rw [hc] at h; unfold gend at h; rw [gr_false] at h; cases h
      | true =>
        rw [hc] at h
        obtain ⟨u, v, h1, h2⟩ := (ih _).1 h
        obtain ⟨u0, hu⟩ := cut_yes hc
        rw [h1] at hu
        exact ⟨u0, y ++ (u ++ v), hu, u, v, rfl, h2⟩
    · rintro ⟨u, v, rfl, u2, v2, rfl, h⟩
      obtain ⟨h1, u', h2⟩ := cut_left (s := u ++ (y ++ (u2 ++ v2))) (p := y) (u := u) (v := u2 ++ v2) rfl
      rw [h1, h2]
      exact (ih _).2 ⟨u' ++ u2, v2, by rw [List.append_assoc], h⟩
/-- The program's answer: the first part ahead, the middle ones, the last one at the end. -/
def globP (p s : T) : Bool :=
  let ps := Ur.splitc 42 p
  let x := ps.headD []
  if ps.length = 1 then preB x s && (s.drop x.length).isEmpty
  else gend (gr (ps.tail.dropLast) (preB x s, cutP x s)) (ps.getLastD [])
theorem preB_iff {x s : T} : preB x s = true ↔ ∃ t, s = x ++ t := by
  unfold preB
  rw [beq_iff_eq]
  constructor
  · intro h; exact ⟨s.drop x.length, by conv => lhs; rw [← List.take_append_drop x.length s, h]⟩
  · rintro ⟨t, rfl⟩; simp
theorem glob_eq (p s : T) : globP p s = gm p s := by
  rw [Bool.eq_iff_iff, gm_iff, M_parts]
  unfold globP
  obtain ⟨x, r, hx⟩ : ∃ x r, Ur.splitc 42 p = x :: r := by
    cases h : Ur.splitc 42 p with
    | nil => exact absurd h (Ur.splitc_ne 42 p)
    | cons x r => exact ⟨x, r, rfl⟩
  rw [hx]
  simp only [List.headD_cons, List.tail_cons]
  cases r with
  | nil =>
    rw [if_pos (show [x].length = 1 from rfl), Bool.and_eq_true, preB_iff]
    show _ ↔ s = x
    constructor
    · rintro ⟨⟨t, rfl⟩, h⟩; simp at h; subst h; simp
    · rintro rfl; exact ⟨⟨[], by simp⟩, by simp⟩
  | cons y r =>
    rw [if_neg (by simp)]
    obtain ⟨mid, z, hm⟩ : ∃ mid z, y :: r = mid ++ [z] := ⟨(y :: r).dropLast, (y :: r).getLast (by simp), (List.dropLast_concat_getLast (by simp)).symm⟩
    have h1 : (y :: r).dropLast = mid := by rw [hm]; simp
    have h2 : (x :: y :: r).getLastD [] = z := by rw [hm, List.getLastD_eq_getLast?, ← List.cons_append, List.getLast?_concat]; rfl
    rw [h1, h2]
    have hM : MP x (y :: r) s ↔ ∃ t, s = x ++ t ∧ ∃ u v, t = u ++ v ∧ MP y r v := by
      constructor
      · rintro ⟨u, v, h, h3⟩; exact ⟨_, h, u, v, rfl, h3⟩
      · rintro ⟨t, h, u, v, rfl, h3⟩; exact ⟨u, v, h, h3⟩
    rw [hM]
    have hg := fun t => gr_iff mid z t
    rw [← hm] at hg
    cases hp : preB x s with
    | false =>
      constructor
      · intro h; unfold gend at h; rw [gr_false] at h; cases h
      · rintro ⟨t, h, _⟩; rw [preB_iff.2 ⟨t, h⟩] at hp; cases hp
    | true =>
      obtain ⟨t, rfl⟩ := preB_iff.1 hp
      have hc : cutP x (x ++ t) = t := by unfold cutP; rw [if_pos hp]; simp
      rw [hc, hg t]
      constructor
      · rintro h; exact ⟨t, rfl, h⟩
      · rintro ⟨t', h, h2⟩; rw [List.append_cancel_left h]; exact h2
end Ac
end Go.Proofs.YtgkphjbcaidcpaaGreatDoor
set_option linter.unusedVariables false
set_option linter.unusedSimpArgs false
namespace Go.Proofs.YtgkphjbcaidcpaaGreatDoor
open Go.RowKit

set_option maxRecDepth 100000
/-- The library's variable holds some int. -/
def MaxL (w : World) : Prop := ∃ m : Int, w.cell? ⟨0, 0, none⟩ = some (.int .i64 m)
theorem maxl_b {w w' : World} (h : MaxL w) (hb : Below w.heap.size w w') : MaxL w' := by
  obtain ⟨m, hm⟩ := h
  exact ⟨m, (World.cell?_of_block (hb.block _ (World.block_lt_of_cell? w _ hm))).trans hm⟩
theorem maxl_of {W : World} (h : W.ShapedOpen Tryz.prog) : MaxL W := cell_of_shapedOpen_int (k := .i64) h (of_decide_eq_true (by kernel_rfl)) (t := 3) (zero := #[.int .i64 0]) (by kernel_rfl) rfl (by kernel_rfl) (by kernel_rfl) Tryz.underlying3
theorem cut_any (s : List UInt8) (c : UInt8) (w : World) (hM : MaxL w) (hs : s.length ≤ 1073741824) :
    Calls Tryz.prog 64 #[.string (bs s), .string ⟨#[c]⟩] w fun e w' => e = .returned (.tuple #[.string (bs (Ur.cutA c s)), .string (bs (Ur.cutB c s)), .bool (Ur.hasC c s)]) ∧ Below w.heap.size w w' := by
  obtain ⟨m, hm⟩ := hM
  refine (Tryz.strings_Cut (bs s) ⟨#[c]⟩ m w (by simp; omega) hm).mono fun e w' h => ⟨?_, ?_⟩
  · have h1 := h.1
    rw [show (ByteArray.mk #[c]).data.toList = [c] from rfl, bs_data, Ur.lib_cut] at h1
    exact h1
  · obtain ⟨n, h2⟩ := h.2
    rw [h2]; exact below_drewN (Below.refl _ _) n
end Go.Proofs.YtgkphjbcaidcpaaGreatDoor
set_option linter.unusedVariables false
set_option linter.unusedSimpArgs false
namespace Go.Proofs.YtgkphjbcaidcpaaGreatDoor
open Go.RowKit

set_option maxHeartbeats 400000 in
theorem lower_any (s : List UInt8) (w : World) (hs : s.length ≤ 140737488355328) :
    Calls Tryz.prog 15 #[.string (bs s)] w fun e w' => e = .returned (.string (bs (fold s))) ∧ Below w.heap.size w w' := by
  have HE : Hid ((s.take s.length).map low = fold s) := Lib.hid (by rw [List.take_length]; rfl)
  go_enter Tryz.func15, Tryz.ntmps15
  go_upto_region 2 with fail
  have hm := OwnB.made w
  have hbm := alloc_below w (.cells #[] 5)
  go_wp2
  go_loopw [3, 4] (fun v t wr => ∃ (k : Nat) (A : Option Addr) (n c : Nat), k ≤ s.length ∧ t = .int .i64 k ∧ v = .slice A n c ∧ OwnB wr w.heap.size (.slice A n c) ((s.take k).map low) ∧ Below w.heap.size w wr) (fun _ t _ => s.length - (intOf t).toNat)
  case atStart => exact ⟨0, _, _, _, by omega, rfl, rfl, hm, hbm⟩
  case round =>
    obtain ⟨k, A, n, c, hk, rfl, rfl, hown, hbr⟩ := hrel
    clear hm hbm
    by_cases hlt : k < s.length
    · have HT : Hid ((s.take (k + 1)).map low = (s.take k).map low ++ [low s[k]]) := Lib.hid (by rw [take_snoc s k hlt, List.map_append]; rfl)
      have hc255 : (s[k].toNat : Int) ≤ 255 := by have := s[k].toNat_lt; omega
      have hlk : ((s.take k).map low).length = k := by simp; omega
      have HLK := Lib.hid hlk
      clear hlk
      by_cases hup : 65 ≤ s[k].toNat ∧ s[k].toNat ≤ 90
      · obtain ⟨hu1, hu2⟩ := hup
        have HV : Hid ((s[k].toNat : Int) + 32 = ((low s[k]).toNat : Int)) := Lib.hid (by rw [low_yes hu1 hu2]; rfl)
        go_upto_region 8 with fail
        rw [HV.out]
        generalize low s[k] = b at *
        go_wp2_with
          (at_builtin
           refine wp_appB rfl (.tmp 24) (.tmp 26) rfl w.heap.size (.slice A n c) _ rfl (hown.step (alloc_below _ _)) _ 1 1 [b] rfl (one_rdB _ _ _) ?hby ?hbase ?_
           case hby => rw [HLK.out]; omega
           case hbase => have := hbr.size; simp; omega
           intro A1 n1 c1 w1 hown1 hb1 hn1)
        go_roundw
        case rel => exact ⟨k + 1, A1, n1, c1, by omega, by go_num, rfl, by rw [HT.out]; exact hown1, (bnext hbr (alloc_below _ _) hbr.size).trans hb1⟩
        case measure => simp [intOf]; omega
      · have HV : Hid (s[k] = low s[k]) := Lib.hid (low_no hup).symm
        go_upto_region 8 with fail
        all_goals
          rw [HV.out]
          generalize low s[k] = b at *
          go_wp2_with
            (at_builtin
             refine wp_appB rfl (.tmp 24) (.tmp 26) rfl w.heap.size (.slice A n c) _ rfl (hown.step (alloc_below _ _)) _ 1 1 [b] rfl (one_rdB _ _ _) ?hby ?hbase ?_
             case hby => rw [HLK.out]; omega
             case hbase => have := hbr.size; simp; omega
             intro A1 n1 c1 w1 hown1 hb1 hn1)
          go_roundw
          case rel => exact ⟨k + 1, A1, n1, c1, by omega, by go_num, rfl, by rw [HT.out]; exact hown1, (bnext hbr (alloc_below _ _) hbr.size).trans hb1⟩
          case measure => simp [intOf]; omega
    · obtain rfl : k = s.length := by omega
      have hcb := conv_bs (w := wr) (A := A) (n := n) (l := fold s) (by rw [← HE.out]; exact hown.rd) c
      go_wp2
      go_ret
      exact ⟨rfl, hbr⟩
end Go.Proofs.YtgkphjbcaidcpaaGreatDoor
set_option linter.unusedVariables false
set_option linter.unusedSimpArgs false
namespace Go.Proofs.YtgkphjbcaidcpaaGreatDoor
open Go.RowKit

theorem pre_short {p s : List UInt8} (h : ¬ p.length ≤ s.length) : preB p s = false := by
  rw [Bool.eq_false_iff]; intro hp; exact h (preB_len hp)
theorem suf_short {p s : List UInt8} (h : ¬ p.length ≤ s.length) : sufB p s = false := by
  rw [Bool.eq_false_iff]; intro hp; exact h (sufB_len hp)
set_option maxHeartbeats 400000 in
theorem hasPrefix_any (s p : List UInt8) (w : World) (hs : s.length ≤ 140737488355328) (hp : p.length ≤ 140737488355328) :
    Calls Tryz.prog 68 #[.string (bs s), .string (bs p)] w fun e w' => e = .returned (.bool (preB p s)) ∧ w = w' := by
  go_enter Tryz.func68, Tryz.ntmps68
  go_wp2
  · go_ret
    exact ⟨ret_bool rfl, rfl⟩
  · go_ret
    exact ⟨ret_bool (pre_short ‹_›).symm, rfl⟩

set_option maxHeartbeats 400000 in
theorem hasSuffix_any (s p : List UInt8) (w : World) (hs : s.length ≤ 140737488355328) (hp : p.length ≤ 140737488355328) :
    Calls Tryz.prog 133 #[.string (bs s), .string (bs p)] w fun e w' => e = .returned (.bool (sufB p s)) ∧ w = w' := by
  go_enter Tryz.func133, Tryz.ntmps133
  go_wp2
  · go_ret
    exact ⟨ret_bool rfl, rfl⟩
  · go_ret
    exact ⟨ret_bool (suf_short ‹_›).symm, rfl⟩

set_option maxHeartbeats 400000 in
theorem lcutPrefix_any (s p : List UInt8) (w : World) (hs : s.length ≤ 140737488355328) (hp : p.length ≤ 140737488355328) :
    Calls Tryz.prog 56 #[.string (bs s), .string (bs p)] w fun e w' => e = .returned (.tuple #[.string (bs (cutP p s)), .bool (preB p s)]) ∧ w = w' := by
  have hl := @preB_len p s
  unfold cutP
  by_cases h : preB p s = true
  · have hl' := hl h
    rw [if_pos h]
    go_enter Tryz.func56, Tryz.ntmps56
    go_wp2_with (go_at_call 68; refine (hasPrefix_any _ _ _ hs hp).mono ?_; rintro e w' ⟨rfl, rfl⟩)
    go_ret2
    exact ⟨by simp [h], rfl⟩
  · have h' : preB p s = false := by simpa using h
    rw [if_neg h]
    go_enter Tryz.func56, Tryz.ntmps56
    go_wp2_with (go_at_call 68; refine (hasPrefix_any _ _ _ hs hp).mono ?_; rintro e w' ⟨rfl, rfl⟩)
    go_ret2
    exact ⟨by simp [h'], rfl⟩
set_option maxHeartbeats 400000 in
theorem cutPrefix_any (s p : List UInt8) (w : World) (hs : s.length ≤ 140737488355328) (hp : p.length ≤ 140737488355328) :
    Calls Tryz.prog 39 #[.string (bs s), .string (bs p)] w fun e w' => e = .returned (.tuple #[.string (bs (cutP p s)), .bool (preB p s)]) ∧ w = w' := by
  go_enter Tryz.func39, Tryz.ntmps39
  go_wp2_with (go_at_call 56; refine (lcutPrefix_any _ _ _ hs hp).mono ?_; rintro e w' ⟨rfl, rfl⟩)
  go_ret2
  exact ⟨rfl, rfl⟩
set_option maxHeartbeats 400000 in
theorem shasSuffix_any (s p : List UInt8) (w : World) (hs : s.length ≤ 140737488355328) (hp : p.length ≤ 140737488355328) :
    Calls Tryz.prog 132 #[.string (bs s), .string (bs p)] w fun e w' => e = .returned (.bool (sufB p s)) ∧ w = w' := by
  go_enter Tryz.func132, Tryz.ntmps132
  go_wp2_with (go_at_call 133; refine (hasSuffix_any _ _ _ hs hp).mono ?_; rintro e w' ⟨rfl, rfl⟩)
  go_ret
  exact ⟨rfl, rfl⟩

end Go.Proofs.YtgkphjbcaidcpaaGreatDoor
set_option linter.unusedVariables false
set_option linter.unusedSimpArgs false
namespace Go.Proofs.YtgkphjbcaidcpaaGreatDoor
open Go.RowKit

set_option maxRecDepth 100000
def askV (a : Ac.Ask) : Value := .agg #[.int .i64 a.src, .string (bs a.host), .int .i64 a.port, .string (bs a.meth), .string (bs a.path), .int .i64 a.now]
structure AskOK (a : Ac.Ask) : Prop where
  host : a.host.length ≤ 4194304
  meth : a.meth.length ≤ 4194304
  path : a.path.length ≤ 4194304
  n1 : -9223372036854775808 ≤ a.now
  n2 : a.now ≤ 9223372036854775807
theorem Ac.and_mask (x k : Nat) (hx : x < 4294967296) (hk : k ≤ 32) : x &&& ((2 ^ (32 - k) - 1) <<< k) = x / 2 ^ k * 2 ^ k := by
  rw [← Nat.shiftLeft_eq, ← Nat.shiftRight_eq_div_pow]
  apply Nat.eq_of_testBit_eq
  intro i
  rw [Nat.testBit_and, Nat.testBit_shiftLeft, Nat.testBit_shiftLeft, Nat.testBit_two_pow_sub_one, Nat.testBit_shiftRight]
  by_cases h1 : k ≤ i
  · rw [show k + (i - k) = i by omega]
    by_cases h2 : i < 32
    · simp [h1, show i - k < 32 - k by omega]
    · have : x.testBit i = false := Nat.testBit_lt_two_pow (Nat.lt_of_lt_of_le hx (by
        have h := Nat.pow_le_pow_right (show 0 < 2 by omega) (show 32 ≤ i by omega)
        have e : (2 : Nat) ^ 32 = 4294967296 := by decide
        omega))
      simp [this]
  · simp [h1]
/-- A network's mask. -/
def Ac.mask (b : Nat) : Nat := (2 ^ b - 1) <<< (32 - b)
theorem Ac.mask_eq (x y b : Nat) (hx : x < 4294967296) (hy : y < 4294967296) (hb : b ≤ 32) : ((x &&& Ac.mask b) = (y &&& Ac.mask b)) ↔ x / 2 ^ (32 - b) = y / 2 ^ (32 - b) := by
  unfold Ac.mask
  have h1 := Ac.and_mask x (32 - b) hx (by omega)
  have h2 := Ac.and_mask y (32 - b) hy (by omega)
  rw [show 32 - (32 - b) = b by omega] at h1 h2
  rw [h1, h2]
  constructor
  · intro h; exact Nat.eq_of_mul_eq_mul_right (Nat.two_pow_pos _) h
  · intro h; rw [h]
theorem Ac.mask_lt (b : Nat) (hb : b ≤ 32) : Ac.mask b < 4294967296 := by
  unfold Ac.mask
  rw [Nat.shiftLeft_eq]
  have h1 : 2 ^ b * 2 ^ (32 - b) = 2 ^ 32 := by rw [← Nat.pow_add]; congr 1; omega
  have e : (2 : Nat) ^ 32 = 4294967296 := by decide
  have h2 := Nat.two_pow_pos b
  have h3 := Nat.two_pow_pos (32 - b)
  have h4 : (2 ^ b - 1) * 2 ^ (32 - b) = 2 ^ b * 2 ^ (32 - b) - 2 ^ (32 - b) := by rw [Nat.sub_mul, Nat.one_mul]
  omega
theorem Ac.mask_bits (x b : Nat) (hx : x < 4294967296) (hb : b ≤ 32) : bits .and .u32 (x : Int) (Ac.mask b : Int) = ((x &&& Ac.mask b : Nat) : Int) :=
  (bits_nat .u32 32 (by decide) (fun n h0 h1 => by rw [IntKind.wrap_u32]; omega) x (Ac.mask b) hx (Ac.mask_lt b hb)).1
theorem net_any (n b : Nat) (a : Ac.Ask) (w : World) (hn : n < 4294967296) (hb : b ≤ 32) :
    Calls Tryz.prog 134 #[.agg #[.int .u32 (n : Int), .int .u32 (Ac.mask b : Int)], askV a] w fun e w' => e = .returned (.bool ((a.src % 4294967296).toNat / 2 ^ (32 - b) == n / 2 ^ (32 - b))) ∧ Below w.heap.size w w' := by
  have HM : Hid ((bits .and .u32 (a.src % 4294967296) (Ac.mask b : Int) == bits .and .u32 (n : Int) (Ac.mask b : Int)) = ((a.src % 4294967296).toNat / 2 ^ (32 - b) == n / 2 ^ (32 - b))) := Lib.hid (by
    obtain ⟨x, hx⟩ : ∃ x : Nat, (a.src % 4294967296).toNat = x := ⟨_, rfl⟩
    have hx2 : a.src % 4294967296 = (x : Int) := by omega
    have hx3 : x < 4294967296 := by omega
    rw [hx2, Int.toNat_natCast, Ac.mask_bits x b hx3 hb, Ac.mask_bits n b hn hb, Bool.eq_iff_iff, beq_iff_eq, beq_iff_eq, ← Ac.mask_eq x n b hx3 hn hb]
    omega)
  generalize ((a.src % 4294967296).toNat / 2 ^ (32 - b) == n / 2 ^ (32 - b)) = R at *
  generalize (Ac.mask b : Int) = m at *
  generalize (n : Int) = x at *
  unfold askV
  go_enter Tryz.func134, Tryz.ntmps134
  go_wp2
  go_ret
  exact ⟨by rw [← HM.out]; rfl, ((Below.refl _ _).alloc (Nat.le_refl _) _).alloc (by simp) _⟩
theorem exact_any (v : List UInt8) (a : Ac.Ask) (w : World) (ha : AskOK a) :
    Calls Tryz.prog 136 #[.string (bs v), askV a] w fun e w' => e = .returned (.bool (fold a.host == v)) ∧ Below w.heap.size w w' := by
  have hf := fold_any a.host
  have hh := ha.host
  have hb0 := alloc_below w (.cells #[.int .i64 a.src, .string (bs a.host), .int .i64 a.port, .string (bs a.meth), .string (bs a.path), .int .i64 a.now] 37)
  unfold askV
  generalize fold a.host = F at *
  go_enter Tryz.func136, Tryz.ntmps136
  go_wp2_with fail
  refine (hf _ (by omega)).mono ?_
  rintro e w2 ⟨rfl, hb2⟩
  go_wp2
  go_ret
  exact ⟨rfl, bnext hb0 hb2 hb0.size⟩
theorem suffix_any (v : List UInt8) (a : Ac.Ask) (w : World) (ha : AskOK a) (hv : 1 ≤ v.length) (hv2 : v.length ≤ 4194304) :
    Calls Tryz.prog 135 #[.string (bs v), askV a] w fun e w' => e = .returned (.bool (fold a.host == v.drop 1 || sufB v (fold a.host))) ∧ Below w.heap.size w w' := by
  have hf := fold_any a.host
  have hh := ha.host
  have hfl := fold_length a.host
  have hb0 := alloc_below w (.cells #[.int .i64 a.src, .string (bs a.host), .int .i64 a.port, .string (bs a.meth), .string (bs a.path), .int .i64 a.now] 37)
  have hD : v.drop 1 = List.take (v.length - 1) v.tail := by rw [List.take_of_length_le (by simp)]; simp
  rw [hD]
  clear hD
  unfold askV
  generalize fold a.host = F at *
  have hS := fun W => shasSuffix_any F v W (by omega) (by omega)
  generalize sufB v F = SB at *
  cases hq : (F == List.take (v.length - 1) v.tail) with
  | true =>
    clear hS
    go_enter Tryz.func135, Tryz.ntmps135
    go_wp2_with fail
    refine (hf _ (by omega)).mono ?_
    rintro e w2 ⟨rfl, hb2⟩
    go_wp2
    go_ret
    exact ⟨by simp, bnext hb0 hb2 hb0.size⟩
  | false =>
    go_enter Tryz.func135, Tryz.ntmps135
    go_wp2_with fail
    refine (hf _ (by omega)).mono ?_
    rintro e w2 ⟨rfl, hb2⟩
    go_wp2_with fail
    refine (hS _).mono ?_
    rintro e w3 ⟨rfl, hw⟩
    subst hw
    go_wp2
    go_ret
    exact ⟨by simp, bnext hb0 hb2 hb0.size⟩
theorem span_any (x y : Int) (a : Ac.Ask) (w : World) :
    Calls Tryz.prog 137 #[.agg #[.int .i64 x, .int .i64 y], askV a] w fun e w' => e = .returned (.bool (decide (x ≤ a.port) && decide (a.port ≤ y))) ∧ Below w.heap.size w w' := by
  unfold askV
  by_cases h : x ≤ a.port
  · have HD : Hid (decide (x ≤ a.port) = true) := Lib.hid (decide_eq_true h)
    go_enter Tryz.func137, Tryz.ntmps137
    go_wp2
    go_ret
    exact ⟨by rw [HD.out]; rfl, ((Below.refl _ _).alloc (Nat.le_refl _) _).alloc (by simp) _⟩
  · have HD : Hid (decide (x ≤ a.port) = false) := Lib.hid (decide_eq_false h)
    go_enter Tryz.func137, Tryz.ntmps137
    go_wp2
    go_ret
    exact ⟨by rw [HD.out]; rfl, ((Below.refl _ _).alloc (Nat.le_refl _) _).alloc (by simp) _⟩
theorem method_any (v : List UInt8) (a : Ac.Ask) (w : World) :
    Calls Tryz.prog 129 #[.string (bs v), askV a] w fun e w' => e = .returned (.bool (a.meth == v)) ∧ Below w.heap.size w w' := by
  unfold askV
  go_enter Tryz.func129, Tryz.ntmps129
  go_wp2
  go_ret
  exact ⟨rfl, (Below.refl _ _).alloc (Nat.le_refl _) _⟩
def Ac.winB (x y s : Int) : Bool := if x < y then decide (x ≤ s) && decide (s < y) else decide (x ≤ s) || decide (s < y)
theorem window_any (x y : Int) (a : Ac.Ask) (w : World) (ha : AskOK a) :
    Calls Tryz.prog 138 #[.agg #[.int .i64 x, .int .i64 y], askV a] w fun e w' => e = .returned (.bool (Ac.winB x y ((max a.now 0) % 86400))) ∧ Below w.heap.size w w' := by
  have h1 := ha.n1
  have h2 := ha.n2
  have hm : 0 ≤ (max a.now 0) % 86400 ∧ (max a.now 0) % 86400 < 86400 := by omega
  unfold askV
  by_cases h : x < y
  · by_cases h9 : x ≤ (max a.now 0) % 86400
    · have HD : Hid (Ac.winB x y ((max a.now 0) % 86400) = decide ((max a.now 0) % 86400 < y)) := Lib.hid (by unfold Ac.winB; rw [if_pos h, decide_eq_true h9, Bool.true_and])
      go_enter Tryz.func138, Tryz.ntmps138
      go_wp2
      go_ret
      exact ⟨by rw [HD.out]; rfl, ((Below.refl _ _).alloc (Nat.le_refl _) _).alloc (by simp) _⟩
    · have HD : Hid (Ac.winB x y ((max a.now 0) % 86400) = false) := Lib.hid (by unfold Ac.winB; rw [if_pos h, decide_eq_false h9, Bool.false_and])
      go_enter Tryz.func138, Tryz.ntmps138
      go_wp2
      go_ret
      exact ⟨by rw [HD.out]; rfl, ((Below.refl _ _).alloc (Nat.le_refl _) _).alloc (by simp) _⟩
  · by_cases h9 : x ≤ (max a.now 0) % 86400
    · have HD : Hid (Ac.winB x y ((max a.now 0) % 86400) = true) := Lib.hid (by unfold Ac.winB; rw [if_neg h, decide_eq_true h9, Bool.true_or])
      go_enter Tryz.func138, Tryz.ntmps138
      go_wp2
      go_ret
      exact ⟨by rw [HD.out]; rfl, ((Below.refl _ _).alloc (Nat.le_refl _) _).alloc (by simp) _⟩
    · have HD : Hid (Ac.winB x y ((max a.now 0) % 86400) = decide ((max a.now 0) % 86400 < y)) := Lib.hid (by unfold Ac.winB; rw [if_neg h, decide_eq_false h9, Bool.false_or])
      go_enter Tryz.func138, Tryz.ntmps138
      go_wp2
      go_ret
      exact ⟨by rw [HD.out]; rfl, ((Below.refl _ _).alloc (Nat.le_refl _) _).alloc (by simp) _⟩
end Go.Proofs.YtgkphjbcaidcpaaGreatDoor
