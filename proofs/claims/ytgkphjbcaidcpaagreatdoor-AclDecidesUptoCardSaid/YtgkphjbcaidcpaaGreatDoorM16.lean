/- Joined texts: The reference's cut and words. The conditions stand in each line. -/
import Derived.Test.YtgkphjbcaidcpaaGreatDoorM8
import Derived.Test.YtgkphjbcaidcpaaGreatDoorM12
import Derived.Test.YtgkphjbcaidcpaaGreatDoorM15
set_option linter.unusedVariables false
set_option linter.unusedSimpArgs false
namespace Go.Proofs.YtgkphjbcaidcpaaGreatDoor
open Go.RowKit

set_option maxRecDepth 100000
/-- bytes onto bytes; what else turned. -/
theorem wp_appBg {w : World} {ops : Array Oper} {rest : List Oper} {o : Oper} {a : Act} {Q : Exit → Act → World → Prop} (hgd : o.guard = none) (s x : Operand) (ho : o.op = .call { callee := .builtin .append, args := #[s, x], argTypes := #[65, 65] })
    (base : Nat) (v : Value) (l : List UInt8) (hs : a.eval s = v) (hown : OwnB w base v l) (A : Option Addr) (m c : Nat) (news : List UInt8) (hx : a.eval x = .slice A m c) (hr : RdB w A m news)
    (hbytes : l.length + m ≤ 140737488355328) (hbase : base ≤ w.heap.size)
    (h : ∀ A' n' c' w', OwnB w' base (.slice A' n' c') (l ++ news) → Below base w w' → w.grownBy w' v.ownBlock → Hid (n' = l.length + m) → wpList Tryz.prog ops Q rest (a.put o.dst (.slice A' n' c')) w') : wpList Tryz.prog ops Q (o :: rest) a w := by
  obtain ⟨i0, hi, hz0, hz1, hz2⟩ := info_parts byt_info
  have h63 : l.length + m ≤ maxLen := by unfold maxLen; omega
  refine wpList_append_any w hgd s x _ ho base _ i0 _ 1 1 Tryz.underlying65 hi hz0 hz1 hz2 rfl (by omega) v l.length (l.map bytV) hs hown A m c (news.map bytV) hx hr.2 (byts_one _) h63 (by omega) hbase fun v' w' h2 h3 h4 => ?_
  obtain ⟨A', c', rfl⟩ := own_slice h2
  refine h A' _ c' w' ?_ ((Below.refl base w).grown h3 hbase fun k hk => (World.ownsRow.lt hown k hk).1) h3 (Lib.hid rfl)
  unfold OwnB
  rw [List.length_append, hr.1, List.map_append]
  exact h2
theorem ownS_grownB {w w' : World} {B B2 : Nat} {v v2 : Value} {l : List (List UInt8)} {b : List UInt8} (h : OwnS w B v l) (hb : OwnB w B2 v2 b) (hg : w.grownBy w' v2.ownBlock) : OwnS w' B v l :=
  own_safe (T := fun t => t = 5) hg (safe_own hb rfl) h (by decide)
theorem made2 (w : World) : OwnB ((w.alloc (.cells #[] 9)).alloc (.cells #[] 5)) w.heap.size (.slice (some ⟨w.heap.size + 1, 0, none⟩) 0 0) [] := by
  have h := OwnB.made (w.alloc (.cells #[] 9))
  rw [show (w.alloc (.cells #[] 9)).heap.size = w.heap.size + 1 from by simp] at h
  exact h.mono (by omega)
namespace Ac
/-- What cut has yet to tell, at byte i of a piece from fr on. -/
def cutR (c : UInt8) (s : T) (fr i : Nat) : List T := if i ≤ s.length then Ur.splitc c (s.drop fr) else []
theorem cutR_step {c : UInt8} {s : T} {fr i : Nat} {b : UInt8} (h : s[i]? = some b) : cutR c s fr (i + 1) = cutR c s fr i := by
  have := lt_of_get? h
  unfold cutR; rw [if_pos (by omega), if_pos (by omega)]
theorem seg_get {c : UInt8} {s : T} {fr i : Nat} (hf : fr ≤ i) (hi : i ≤ s.length) (hn : ∀ j b, fr ≤ j → j < i → s[j]? = some b → b ≠ c) : ∀ b ∈ (s.drop fr).take (i - fr), b ≠ c := by
  intro b hb
  obtain ⟨k, hk⟩ := List.mem_iff_getElem?.1 hb
  rw [List.getElem?_take] at hk
  split at hk
  · rw [List.getElem?_drop] at hk
    exact hn (fr + k) b (by omega) (by omega) hk
  · cases hk
theorem cutR_hit {c : UInt8} {s : T} {fr i : Nat} (hf : fr ≤ i) (h : s[i]? = some c) (hn : ∀ j b, fr ≤ j → j < i → s[j]? = some b → b ≠ c) : cutR c s fr i = (s.drop fr).take (i - fr) :: cutR c s (i + 1) (i + 1) := by
  have hi := lt_of_get? h
  obtain ⟨_, hb⟩ := List.getElem?_eq_some_iff.1 h
  unfold cutR
  rw [if_pos (by omega), if_pos (by omega)]
  have e : s.drop fr = (s.drop fr).take (i - fr) ++ c :: s.drop (i + 1) := by
    conv => lhs; rw [← List.take_append_drop (i - fr) (s.drop fr)]
    rw [List.drop_drop, show fr + (i - fr) = i by omega, List.drop_eq_getElem_cons hi, hb]
  conv => lhs; rw [e]
  exact Ur.splitc_of (seg_get hf (by omega) hn) _
theorem cutR_end {c : UInt8} {s : T} {fr : Nat} (hf : fr ≤ s.length) (hn : ∀ j b, fr ≤ j → j < s.length → s[j]? = some b → b ≠ c) : cutR c s fr s.length = (s.drop fr).take (s.length - fr) :: cutR c s (s.length + 1) (s.length + 1) := by
  unfold cutR
  rw [if_pos (by omega), if_neg (by omega)]
  have h := seg_get hf (Nat.le_refl _) hn
  have e : (s.drop fr).take (s.length - fr) = s.drop fr := List.take_of_length_le (by simp)
  rw [e] at h ⊢
  exact Ur.splitc_one h
theorem wordsA_word {s : T} {i : Nat} {b : UInt8} {acc : T} (h : s[i]? = some b) (hb : blk b = false) : wordsA acc (s.drop i) = wordsA (acc ++ [b]) (s.drop (i + 1)) := by
  obtain ⟨hi, rfl⟩ := List.getElem?_eq_some_iff.1 h
  rw [List.drop_eq_getElem_cons hi, wordsA, hb]
  simp
theorem wordsA_gap {s : T} {i : Nat} {b : UInt8} (h : s[i]? = some b) (hb : blk b = true) : wordsA [] (s.drop i) = wordsA [] (s.drop (i + 1)) := by
  obtain ⟨hi, rfl⟩ := List.getElem?_eq_some_iff.1 h
  rw [List.drop_eq_getElem_cons hi, wordsA, hb]
  simp
theorem wordsA_break {s : T} {i : Nat} {b : UInt8} {acc : T} (h : s[i]? = some b) (hb : blk b = true) (h0 : 0 < acc.length) : wordsA acc (s.drop i) = acc :: wordsA [] (s.drop (i + 1)) := by
  obtain ⟨hi, rfl⟩ := List.getElem?_eq_some_iff.1 h
  rw [List.drop_eq_getElem_cons hi, wordsA, hb]
  cases acc with
  | nil => simp at h0
  | cons x y => simp
theorem wordsA_done {s : T} {acc : T} (h0 : 0 < acc.length) : wordsA acc (s.drop s.length) = [acc] := by
  rw [List.drop_length, wordsA]
  cases acc with
  | nil => simp at h0
  | cons x y => simp
theorem wordsA_none {s : T} : wordsA [] (s.drop s.length) = [] := by rw [List.drop_length, wordsA]; rfl
end Ac
set_option maxHeartbeats 1000000 in
theorem rcut_any (s : List UInt8) (c : UInt8) (w : World) (hs : s.length ≤ 4398046511104) :
    Calls Tryz.prog 20 #[.string (bs s), .int .u8 c.toNat] w fun e w' => ∃ A n c', e = .returned (.slice A n c') ∧ OwnS w' w.heap.size (.slice A n c') (Ur.splitc c s) ∧ Below w.heap.size w w' := by
  have HZ : Hid (Ac.cutR c s 0 0 = Ur.splitc c s) := Lib.hid (by unfold Ac.cutR; rw [if_pos (by omega)]; rfl)
  have HS := Lib.hid fun (fr i : Nat) (b : UInt8) (h : s[i]? = some b) => Ac.cutR_step (c := c) (fr := fr) h
  have HH := Lib.hid fun (fr i : Nat) (hf : fr ≤ i) (h : s[i]? = some c) hn => Ac.cutR_hit (c := c) (s := s) (fr := fr) (i := i) hf h hn
  have HE := Lib.hid fun (fr : Nat) (hf : fr ≤ s.length) hn => Ac.cutR_end (c := c) (s := s) (fr := fr) hf hn
  have HX : Hid (∀ fr, Ac.cutR c s fr (s.length + 1) = []) := Lib.hid fun fr => by unfold Ac.cutR; rw [if_neg (by omega)]
  generalize Ac.cutR c s = cR at *
  generalize Ur.splitc c s = R at *
  go_enter Tryz.func20, Tryz.ntmps20
  go_wp2
  go_loopw [5, 6, 7] (fun v f t wr => ∃ (i fr : Nat) (out : List (List UInt8)) (A' : Option Addr) (n' c' : Nat), fr ≤ i ∧ i ≤ s.length + 1 ∧ t = .int .i64 i ∧ f = .int .i64 fr ∧ v = .slice A' n' c' ∧ OwnS wr w.heap.size (.slice A' n' c') out ∧ out.length ≤ i ∧ Hid (∀ j b, fr ≤ j → j < i → s[j]? = some b → b ≠ c) ∧ Hid (out ++ cR fr i = R) ∧ Below w.heap.size w wr) (fun _ _ t _ => s.length + 1 - (intOf t).toNat)
  case atStart => exact ⟨0, 0, [], _, _, _, by omega, by omega, rfl, rfl, rfl, OwnS.made w, by simp, Lib.hid (fun j b h1 h2 => by omega), Lib.hid HZ.out, alloc_below w _⟩
  case round =>
    obtain ⟨i, fr, out, A', n', c', h1, h2, rfl, rfl, rfl, hown, hol, HN, HR, hbr⟩ := hrel
    by_cases hle : i ≤ s.length
    · by_cases hlt : i < s.length
      · have hX := List.getElem?_eq_getElem hlt
        by_cases hc : s[i] = c
        · have ec := u8eq hc
          have HR2 : Hid ((out ++ [(s.drop fr).take (i - fr)]) ++ cR (i + 1) (i + 1) = R) := Lib.hid (by
            rw [← HR.out, HH.out fr i h1 (by rw [hX, hc]) HN.out]; simp)
          clear hX hc HN HR HZ HS HH HE HX
          go_wp2_with
            (at_builtin
             refine wp_appS rfl (.tmp 26) (.tmp 31) rfl w.heap.size (.slice A' n' c') _ rfl (hown.step (alloc_below _ _)) _ 1 1 [(s.drop fr).take (i - fr)] rfl ?hr ?hby ?hbase ?_
             case hr => exact one_rdS' _ _ _ _ (by simp)
             case hby => omega
             case hbase => have := hbr.size; simp; omega
             intro A3 n3 c3 w3 hown3 hb3 hn3)
          go_roundw
          case rel => exact ⟨i + 1, i + 1, _, A3, n3, c3, by omega, by omega, by go_num, by go_num, rfl, hown3, by simp; omega, Lib.hid (fun j b h1 h2 => by omega), HR2, (bnext hbr (alloc_below _ _) hbr.size).trans hb3⟩
          case measure => simp [intOf] <;> omega
        · have ec := u8ne hc
          have HN2 : Hid (∀ j b, fr ≤ j → j < i + 1 → s[j]? = some b → b ≠ c) := Lib.hid fun j b g1 g2 g3 => by
            by_cases hj : j = i
            · subst hj; rw [hX] at g3; cases g3; exact hc
            · exact HN.out j b g1 (by omega) g3
          have HR2 : Hid (out ++ cR fr (i + 1) = R) := Lib.hid (by rw [← HR.out, HS.out fr i _ hX])
          clear hX hc HN HR HZ HS HH HE HX
          go_wp2
          go_roundw
          case rel => exact ⟨i + 1, fr, out, A', n', c', by omega, by omega, by go_num, rfl, rfl, hown, by omega, HN2, HR2, hbr⟩
          case measure => simp [intOf] <;> omega
      · obtain rfl : i = s.length := by omega
        have HR2 : Hid ((out ++ [s.drop fr]) ++ cR (s.length + 1) (s.length + 1) = R) := Lib.hid (by
          rw [← HR.out, HE.out fr h1 HN.out]; simp)
        clear HN HR HZ HS HH HE HX
        go_wp2_with
          (at_builtin
           refine wp_appS rfl (.tmp 26) (.tmp 31) rfl w.heap.size (.slice A' n' c') _ rfl (hown.step (alloc_below _ _)) _ 1 1 [s.drop fr] rfl ?hr2 ?hby2 ?hbase2 ?_
           case hr2 => exact one_rdS' _ _ _ _ (by simp)
           case hby2 => omega
           case hbase2 => have := hbr.size; simp; omega
           intro A3 n3 c3 w3 hown3 hb3 hn3)
        go_roundw
        case rel => exact ⟨s.length + 1, s.length + 1, _, A3, n3, c3, by omega, by omega, by go_num, by go_num, rfl, hown3, by simp; omega, Lib.hid (fun j b h1 h2 => by omega), HR2, (bnext hbr (alloc_below _ _) hbr.size).trans hb3⟩
        case measure => simp [intOf] <;> omega
    · obtain rfl : i = s.length + 1 := by omega
      have HF : Hid (out = R) := Lib.hid (by rw [← HR.out, HX.out fr]; simp)
      clear HN HR HZ HS HH HE HX
      go_wp2
      go_ret
      exact ⟨A', n', c', rfl, by rw [← HF.out]; exact hown, hbr⟩
set_option maxHeartbeats 2000000 in
theorem rwords_any (s : List UInt8) (w : World) (hs : s.length ≤ 4398046511104) :
    Calls Tryz.prog 21 #[.string (bs s)] w fun e w' => ∃ A n c', e = .returned (.slice A n c') ∧ OwnS w' w.heap.size (.slice A n c') (Ac.words s) ∧ Below w.heap.size w w' := by
  have HZ : Hid (Ac.wordsA [] (s.drop 0) = Ac.words s) := Lib.hid rfl
  have H1 := Lib.hid fun (i : Nat) (b : UInt8) (acc : List UInt8) (h : s[i]? = some b) hb => Ac.wordsA_word (acc := acc) h hb
  have H2 := Lib.hid fun (i : Nat) (b : UInt8) (h : s[i]? = some b) hb => Ac.wordsA_gap h hb
  have H3 := Lib.hid fun (i : Nat) (b : UInt8) (acc : List UInt8) (h : s[i]? = some b) hb h0 => Ac.wordsA_break (acc := acc) h hb h0
  have H4 := Lib.hid fun (acc : List UInt8) h0 => Ac.wordsA_done (s := s) (acc := acc) h0
  have H5 : Hid (Ac.wordsA [] (s.drop s.length) = []) := Lib.hid Ac.wordsA_none
  generalize Ac.words s = R at *
  have HB : Hid (∀ b : UInt8, Ac.blk b = false → ((b.toNat : Int) != 32) = true ∧ ((b.toNat : Int) != 9) = true) := Lib.hid fun b h => by
    unfold Ac.blk at h
    rw [Bool.or_eq_false_iff] at h
    exact ⟨by rw [bne, u8nek (ne_of_beq_false h.1) 32 rfl]; rfl, by rw [bne, u8nek (ne_of_beq_false h.2) 9 rfl]; rfl⟩
  have HC : Hid (∀ b : UInt8, Ac.blk b = true → ((b.toNat : Int) != 32) = false ∨ (((b.toNat : Int) != 32) = true ∧ ((b.toNat : Int) != 9) = false)) := Lib.hid fun b h => by
    unfold Ac.blk at h
    by_cases h32 : b = 32
    · exact .inl (by rw [bne, u8eqk h32 32 rfl]; rfl)
    · refine .inr ⟨by rw [bne, u8nek h32 32 rfl]; rfl, ?_⟩
      rw [beq_eq_false_iff_ne.2 h32, Bool.false_or, beq_iff_eq] at h
      rw [bne, u8eqk h 9 rfl]; rfl
  go_enter Tryz.func21, Tryz.ntmps21
  go_wp2
  go_loopw [3, 4, 5] (fun v f t wr => ∃ (i : Nat) (out : List (List UInt8)) (acc : List UInt8) (A' : Option Addr) (n' c' : Nat) (A2 : Option Addr) (n2 c2 : Nat), i ≤ s.length + 1 ∧ t = .int .i64 i ∧ v = .slice A' n' c' ∧ OwnS wr w.heap.size (.slice A' n' c') out ∧ f = .slice A2 n2 c2 ∧ OwnB wr w.heap.size (.slice A2 n2 c2) acc ∧ acc.length = n2 ∧ n2 ≤ i ∧ out.length ≤ i ∧ Hid ((i ≤ s.length → out ++ Ac.wordsA acc (s.drop i) = R) ∧ (s.length < i → out = R)) ∧ Below w.heap.size w wr) (fun _ _ t _ => s.length + 1 - (intOf t).toNat)
  case atStart => exact ⟨0, [], [], _, _, _, _, _, _, by omega, rfl, rfl, (OwnS.made w).step (alloc_below _ _), rfl, made2 w, rfl, by omega, by simp, Lib.hid ⟨fun _ => HZ.out, fun h => by omega⟩, bnext (alloc_below w _) (alloc_below _ _) (by simp)⟩
  case round =>
    obtain ⟨i, out, acc, A', n', c', A2, n2, c2, h2, rfl, rfl, hown, rfl, hownB, han, hal, hol, HR, hbr⟩ := hrel
    have hwb := hbr.size
    by_cases hle : i ≤ s.length
    · have HR1 := Lib.hid (HR.out.1 hle)
      by_cases hlt : i < s.length
      · have hX := List.getElem?_eq_getElem hlt
        cases hbl : Ac.blk s[i] with
        | false =>
          obtain ⟨g1, g2⟩ := HB.out _ hbl
          have HR2 : Hid ((i + 1 ≤ s.length → out ++ Ac.wordsA (acc ++ [s[i]]) (s.drop (i + 1)) = R) ∧ (s.length < i + 1 → out = R)) := Lib.hid ⟨fun _ => by rw [← H1.out i _ acc hX hbl]; exact HR1.out, fun h => by omega⟩
          have hS2 := OwnS.step hown (alloc_below wr (.cells #[.int .u8 s[i].toNat] 5))
          have hB2 := OwnB.step hownB (alloc_below wr (.cells #[.int .u8 s[i].toNat] 5))
          clear hX hbl HR HR1 HZ H1 H2 H3 H4 H5 HB HC
          go_wp2_with
            (at_builtin
             refine wp_appBg rfl (.tmp 30) (.tmp 34) rfl w.heap.size (.slice A2 n2 c2) acc rfl hB2 _ 1 1 [s[i]] rfl ?hr ?hby ?hbase ?_
             case hr => exact one_rdB _ _ _
             case hby => omega
             case hbase => simp; omega
             intro A3 n3 c3 w3 hown3 hb3 hg3 hn3)
          have hS3 := ownS_grownB hS2 hB2 hg3
          have hn3' := hn3.out
          go_roundw
          case rel => exact ⟨i + 1, out, _, A', n', c', A3, n3, c3, by omega, by go_num, rfl, hS3, rfl, hown3, by simp; omega, by omega, by omega, HR2, (bnext hbr (alloc_below _ _) hbr.size).trans hb3⟩
          case measure => simp [intOf] <;> omega
        | true =>
          rcases Nat.eq_zero_or_pos n2 with h0 | h0
          · subst h0
            obtain rfl : acc = [] := List.eq_nil_of_length_eq_zero han
            have HR2 : Hid ((i + 1 ≤ s.length → out ++ Ac.wordsA [] (s.drop (i + 1)) = R) ∧ (s.length < i + 1 → out = R)) := Lib.hid ⟨fun _ => by rw [← H2.out i _ hX hbl]; exact HR1.out, fun h => by omega⟩
            rcases HC.out _ hbl with g1 | ⟨g1, g2⟩
            all_goals
              clear hX hbl HR HR1 HZ H1 H2 H3 H4 H5 HB HC
              go_wp2
              go_roundw
              case rel => exact ⟨i + 1, out, [], A', n', c', A2, 0, c2, by omega, by go_num, rfl, hown, rfl, hownB, rfl, by omega, by omega, HR2, hbr⟩
              case measure => simp [intOf] <;> omega
          · have HR2 : Hid ((i + 1 ≤ s.length → (out ++ [acc]) ++ Ac.wordsA [] (s.drop (i + 1)) = R) ∧ (s.length < i + 1 → out ++ [acc] = R)) := Lib.hid ⟨fun _ => by rw [← HR1.out, H3.out i _ acc hX hbl (by omega)]; simp, fun h => by omega⟩
            have hcv := fun n => conv_bs (OwnB.rd hownB |>.step (below_drewN (Below.refl wr.heap.size wr) n)) c2
            have hcv0 := conv_bs (OwnB.rd hownB) c2
            have g0 : (0 : Int) < (n2 : Int) := by omega
            rcases HC.out _ hbl with g1 | ⟨g1, g2⟩
            all_goals
              clear hX hbl HR HR1 HZ H1 H2 H3 H4 H5 HB HC
              go_wp2_with
                (at_builtin
                 refine wp_appS rfl (.tmp 39) (.tmp 42) rfl w.heap.size (.slice A' n' c') _ rfl (hown.step (alloc_below _ _)) _ 1 1 [acc] rfl ?_ ?_ ?_ ?_
                 · exact one_rdS' _ _ _ _ (by simp)
                 · omega
                 · simp; omega
                 intro A3 n3 c3 w3 hown3 hb3 hn3)
              have hb4 := (bnext hbr (alloc_below _ _) hbr.size).trans hb3
              have hsz := hb4.size
              go_roundw
              case rel => exact ⟨i + 1, _, [], A3, n3, c3, _, 0, 0, by omega, by go_num, rfl, hown3.step (alloc_below _ _), rfl, OwnB.mono (OwnB.made _) hsz, rfl, by omega, by simp; omega, HR2, bnext hb4 (alloc_below _ _) hsz⟩
              case measure => simp [intOf] <;> omega
      · obtain rfl : i = s.length := by omega
        rcases Nat.eq_zero_or_pos n2 with h0 | h0
        · subst h0
          obtain rfl : acc = [] := List.eq_nil_of_length_eq_zero han
          have HR2 : Hid ((s.length + 1 ≤ s.length → out ++ Ac.wordsA [] (s.drop (s.length + 1)) = R) ∧ (s.length < s.length + 1 → out = R)) := Lib.hid ⟨fun h => by omega, fun _ => by rw [← HR1.out, H5.out]; simp⟩
          clear HR HR1 HZ H1 H2 H3 H4 H5 HB HC
          go_wp2
          go_roundw
          case rel => exact ⟨s.length + 1, out, [], A', n', c', A2, 0, c2, by omega, by go_num, rfl, hown, rfl, hownB, rfl, by omega, by omega, HR2, hbr⟩
          case measure => simp [intOf] <;> omega
        · have HR2 : Hid ((s.length + 1 ≤ s.length → (out ++ [acc]) ++ Ac.wordsA [] (s.drop (s.length + 1)) = R) ∧ (s.length < s.length + 1 → out ++ [acc] = R)) := Lib.hid ⟨fun h => by omega, fun _ => by rw [← HR1.out, H4.out acc (by omega)]⟩
          have hcv := fun n => conv_bs (OwnB.rd hownB |>.step (below_drewN (Below.refl wr.heap.size wr) n)) c2
          have hcv0 := conv_bs (OwnB.rd hownB) c2
          have g0 : (0 : Int) < (n2 : Int) := by omega
          clear HR HR1 HZ H1 H2 H3 H4 H5 HB HC
          go_wp2_with
            (at_builtin
             refine wp_appS rfl (.tmp 39) (.tmp 42) rfl w.heap.size (.slice A' n' c') _ rfl (hown.step (alloc_below _ _)) _ 1 1 [acc] rfl ?_ ?_ ?_ ?_
             · exact one_rdS' _ _ _ _ (by simp)
             · omega
             · simp; omega
             intro A3 n3 c3 w3 hown3 hb3 hn3)
          have hb4 := (bnext hbr (alloc_below _ _) hbr.size).trans hb3
          have hsz := hb4.size
          go_roundw
          case rel => exact ⟨s.length + 1, _, [], A3, n3, c3, _, 0, 0, by omega, by go_num, rfl, hown3.step (alloc_below _ _), rfl, OwnB.mono (OwnB.made _) hsz, rfl, by omega, by simp; omega, HR2, bnext hb4 (alloc_below _ _) hsz⟩
          case measure => simp [intOf] <;> omega
    · obtain rfl : i = s.length + 1 := by omega
      have HF := Lib.hid (HR.out.2 (by omega))
      clear HR HZ H1 H2 H3 H4 H5 HB HC
      go_wp2
      go_ret
      exact ⟨A', n', c', rfl, by rw [← HF.out]; exact hown, hbr⟩
end Go.Proofs.YtgkphjbcaidcpaaGreatDoor
